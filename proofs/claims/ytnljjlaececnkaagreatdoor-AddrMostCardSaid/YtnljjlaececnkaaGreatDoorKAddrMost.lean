/-
  The walk of AddrMost. Condition: the variables hold what their initialisers laid.
-/
import Derived.Test.YtnljjlaececnkaaGreatDoorBD
namespace Go.Proofs.YtnljjlaececnkaaGreatDoor
open Go.RowKit
set_option linter.unusedVariables false
set_option linter.unusedSimpArgs false
theorem IsBest.uniq {l : List Pr} {src dst : List Int} {n k k' : Nat} {ok ok' : Bool} (h : IsBest l src dst n k ok) (h' : IsBest l src dst n k' ok') : k = k' ∧ ok = ok' := by
  cases ok with
  | false =>
    cases ok' with
    | false => exact ⟨(h.no rfl).1.trans (h'.no rfl).1.symm, rfl⟩
    | true =>
      obtain ⟨hk, b, hb, hm, -⟩ := h'.yes rfl
      have := (h.no rfl).2 k' b hk hb
      rw [hm] at this; cases this
  | true =>
    obtain ⟨hk, b, hb, hm, hall⟩ := h.yes rfl
    cases ok' with
    | false =>
      have := (h'.no rfl).2 k b hk hb
      rw [hm] at this; cases this
    | true =>
      obtain ⟨hk', b', hb', hm', hall'⟩ := h'.yes rfl
      have h1 := hall k' b' hk' hb' hm'
      have h2 := hall' k b hk hb hm
      exact ⟨by omega, rfl⟩
theorem IsBest.some (l : List Pr) (src dst : List Int) : ∀ n, n ≤ l.length → ∃ k ok, IsBest l src dst n k ok
  | 0, _ => ⟨0, false, IsBest.start l src dst⟩
  | n + 1, hn => by
    obtain ⟨k, ok, h⟩ := IsBest.some l src dst n (by omega)
    obtain ⟨p, hp⟩ := get_some (l := l) (j := n) (by omega)
    cases hm : mat p src dst with
    | false => exact ⟨k, ok, h.skip hp hm⟩
    | true =>
      cases ok with
      | false => exact ⟨n, true, h.first hp hm⟩
      | true =>
        obtain ⟨hk, b, hb, -, -⟩ := h.yes rfl
        by_cases hc : or2 (Lib.compareInt p.d.n b.d.n) (Lib.compareInt p.s.n b.s.n) ≤ 0
        · exact ⟨k, true, h.stay hp hb hc⟩
        · exact ⟨n, true, h.turn hp hb hm hc⟩
theorem best_call {w : World} {src dst : List Int} (hs : isA src) (hd : isA dst) {l : List Pr} (hf : ∀ p ∈ l, p.fit) {v : Value} (hr : Prs w v l) {k : Nat} {ok : Bool} (hb : IsBest l src dst l.length k ok) : Calls Tryz.prog 36 #[vA src, vA dst, v] w fun e w' => e = .returned (.tuple #[.int .i64 k, .bool ok]) ∧ Below w.heap.size w w' :=
  (best_any hs hd hf hr).mono fun e w' ⟨⟨k', ok', he, hb'⟩, bel⟩ => ⟨by obtain ⟨rfl, rfl⟩ := hb.uniq hb'; exact he, bel⟩
theorem mat_call {w : World} {p : Pr} {src dst : List Int} (hp : p.fit) (hs : isA src) (hd : isA dst) {b : Bool} (h : mat p src dst = b) : Calls Tryz.prog 37 #[vPP p, vA src, vA dst] w fun e w' => e = .returned (.bool b) ∧ Below w.heap.size w w' := (mat_any hp hs hd).mono fun e w' h' => ⟨by rw [h'.1, h], h'.2⟩
section
variable {W : World} {B b o n c i : Nat} {l : List Pr} {p : Pr}
theorem ld_el (hr : Row W (fun b => B ≤ b) 34 (.slice (some ⟨b, o, none⟩) n c) n (prs l)) (hf : ∀ p ∈ l, p.fit) (hget : l[i]? = some p) : (loadVar 57 ⟨b, o + i * 34, none⟩).run Tryz.prog W = .ok (vPP p) W :=
  run_loadVar_mid W b (o + i * 34) 57 (ppCs p) _ (fun j u hj => by rw [Nat.add_assoc]; exact hr.cells (prs_at hf hget hj)) Tryz.underlying57 rfl (by rw [ppCs_len (hf p (List.mem_of_getElem? hget))]; exact size57)
theorem ld_dn (hr : Row W (fun b => B ≤ b) 34 (.slice (some ⟨b, o, none⟩) n c) n (prs l)) (hf : ∀ p ∈ l, p.fit) (hget : l[i]? = some p) : (loadVar 3 ⟨b, o + i * 34 + 16, none⟩).run Tryz.prog W = .ok (.int .i64 p.d.n) W :=
  loadVar_int Tryz.underlying3 (by rw [Nat.add_assoc]; exact hr.cells (prs_at hf hget (ppCs_d (hf p (List.mem_of_getElem? hget)))))
theorem ld_sn (hr : Row W (fun b => B ≤ b) 34 (.slice (some ⟨b, o, none⟩) n c) n (prs l)) (hf : ∀ p ∈ l, p.fit) (hget : l[i]? = some p) : (loadVar 3 ⟨b, o + i * 34 + 17 + 16, none⟩).run Tryz.prog W = .ok (.int .i64 p.s.n) W :=
  loadVar_int Tryz.underlying3 (by rw [Nat.add_assoc, Nat.add_assoc]; exact hr.cells (prs_at hf hget (ppCs_s (hf p (List.mem_of_getElem? hget)))))
end
set_option maxRecDepth 100000 in
set_option maxHeartbeats 3200000 in
theorem most_long {l : List Pr} {v : Value} {src dst : List Int} {w : World} (hs : isA src) (hd : isA dst) (hr : Prs w v l) (E : Env w) (h : 60 < l.length) : Calls Tryz.prog 7 #[v, vA src, vA dst] w fun e w' => e = .returned (.bool true) ∧ Below w.heap.size w w' := by
  obtain ⟨h0, A, c, rfl, q1, q2, q3, q5⟩ := id hr
  have Hs := Lib.hid hs
  have Hd := Lib.hid hd
  have bx := (((Bz.start w).alloc (oA src) rfl).alloc (oA dst) (World.size_alloc _ _) : Bz w [(w.heap.size + 1, oA dst), (w.heap.size, oA src)] _)
  clear hr q5 h0 hs hd
  have hlt : decide (60 < (l.length : Int)) = true := decide_eq_true (by omega)
  unfold vA
  go_enter Tryz.func7, Tryz.ntmps7
  go_wp2_with (refine wpList_quiet (C := Bz w [(w.heap.size + 1, oA dst), (w.heap.size, oA src)]) 2 (by rfl) bx ?_)
  refine wpQuiet_hide ?_
  intro lq hlq
  refine wpQuiet_step_h hlq ?_
  clear hlq lq
  intro K lq hlq hK
  refine wanted_go (by rfl) ?_
  refine ⟨?_, fun W hW => ?_, ?_⟩
  rotate_left
  · skip
    go_simp
    with_reducible rfl
  refine hK _ ?_
  clear hK K
  (try simp only [Act.put, List.setIfInBounds_toArray, List.set_cons_zero, List.set_cons_succ])
  refine wpQuiet_step_h hlq ?_
  clear hlq lq
  intro K lq hlq hK
  refine wanted_go (by rfl) ?_
  refine ⟨?_, fun W hW => ?_, ?_⟩
  rotate_left
  · skip
    go_simp
    with_reducible rfl
  refine hK _ ?_
  clear hK K
  (try simp only [Act.put, List.setIfInBounds_toArray, List.set_cons_zero, List.set_cons_succ])
  refine wpQuiet_nil_h hlq ?_
  clear hlq lq bx
  intro V1 hV2
  go_wp2_with (refine wpList_quiet (C := Bz w [(w.heap.size + 1, oA dst), (w.heap.size, oA src)]) 2 (by rfl) hV2 ?_)
  refine wpQuiet_hide ?_
  intro lq hlq
  refine wpQuiet_step_h hlq ?_
  clear hlq lq
  intro K lq hlq hK
  refine wanted_go (by rfl) ?_
  refine ⟨.bool true, fun W hW => ?_, ?_⟩
  · go_simp
    have E' := hW.env E
    exact (live02_any E').mono fun e W2 hc2 => ⟨hc2.1, hW.go hc2.2⟩
  refine hK _ ?_
  clear hK K
  (try simp only [Act.put, List.setIfInBounds_toArray, List.set_cons_zero, List.set_cons_succ])
  refine wpQuiet_step_h hlq ?_
  clear hlq lq
  intro K lq hlq hK
  refine wanted_go (by rfl) ?_
  refine ⟨?_, fun W hW => ?_, ?_⟩
  rotate_left
  · skip
    go_simp
    with_reducible rfl
  refine hK _ ?_
  clear hK K
  (try simp only [Act.put, List.setIfInBounds_toArray, List.set_cons_zero, List.set_cons_succ])
  refine wpQuiet_nil_h hlq ?_
  clear hlq lq hV2
  intro V3 hV4
  go_wp2_with fail
  go_ret
  exact ⟨rfl, hV4.bel⟩
set_option maxRecDepth 100000 in
set_option maxHeartbeats 3200000 in
theorem most_no {l : List Pr} {v : Value} {src dst : List Int} {w : World} (hs : isA src) (hd : isA dst) (hf : ∀ p ∈ l, p.fit) (hr : Prs w v l) (E : Env w) (h : l.length ≤ 60) {k : Nat} (hb : IsBest l src dst l.length k false) : Calls Tryz.prog 7 #[v, vA src, vA dst] w fun e w' => e = .returned (.bool true) ∧ Below w.heap.size w w' := by
  obtain ⟨h0, A, c, rfl, q1, q2, q3, q5⟩ := id hr
  replace hr := Lib.hid hr
  have Hs := Lib.hid hs
  have Hd := Lib.hid hd
  have Hf := Lib.hid hf
  have Hb := Lib.hid hb
  have bx := (((Bz.start w).alloc (oA src) rfl).alloc (oA dst) (World.size_alloc _ _) : Bz w [(w.heap.size + 1, oA dst), (w.heap.size, oA src)] _)
  clear q5 h0 hs hd hf hb
  have hlt : decide (60 < (l.length : Int)) = false := decide_eq_false (by omega)
  unfold vA
  go_enter Tryz.func7, Tryz.ntmps7
  go_wp2_with (refine wpList_quiet (C := Bz w [(w.heap.size + 1, oA dst), (w.heap.size, oA src)]) 2 (by rfl) bx ?_)
  refine wpQuiet_hide ?_
  intro lq hlq
  refine wpQuiet_step_h hlq ?_
  clear hlq lq
  intro K lq hlq hK
  refine wanted_go (by rfl) ?_
  refine ⟨?_, fun W hW => ?_, ?_⟩
  rotate_left
  · skip
    go_simp
    with_reducible rfl
  refine hK _ ?_
  clear hK K
  (try simp only [Act.put, List.setIfInBounds_toArray, List.set_cons_zero, List.set_cons_succ])
  refine wpQuiet_step_h hlq ?_
  clear hlq lq
  intro K lq hlq hK
  refine wanted_go (by rfl) ?_
  refine ⟨?_, fun W hW => ?_, ?_⟩
  rotate_left
  · skip
    go_simp
    with_reducible rfl
  refine hK _ ?_
  clear hK K
  (try simp only [Act.put, List.setIfInBounds_toArray, List.set_cons_zero, List.set_cons_succ])
  refine wpQuiet_nil_h hlq ?_
  clear hlq lq bx
  intro V1 hV2
  go_wp2_with (refine wpList_quiet (C := Bz w [(w.heap.size + 1, oA dst), (w.heap.size, oA src)]) 9 (by rfl) hV2 ?_)
  refine wpQuiet_hide ?_
  intro lq hlq
  refine wpQuiet_step_h hlq ?_
  clear hlq lq
  intro K lq hlq hK
  refine wanted_go (by rfl) ?_
  refine ⟨vA src, fun W hW => ?_, ?_⟩
  · skip
    exact quiet_load 42 _ rfl rfl (ldA (hW.all.get 1 (x := (w.heap.size, oA src)) rfl) Hs.out)
  refine hK _ ?_
  clear hK K
  (try simp only [Act.put, List.setIfInBounds_toArray, List.set_cons_zero, List.set_cons_succ])
  refine wpQuiet_step_h hlq ?_
  clear hlq lq
  intro K lq hlq hK
  refine wanted_go (by rfl) ?_
  refine ⟨vA dst, fun W hW => ?_, ?_⟩
  · skip
    exact quiet_load 42 _ rfl rfl (ldA (hW.all.get 0 (x := (w.heap.size + 1, oA dst)) rfl) Hd.out)
  refine hK _ ?_
  clear hK K
  (try simp only [Act.put, List.setIfInBounds_toArray, List.set_cons_zero, List.set_cons_succ])
  refine wpQuiet_step_h hlq ?_
  clear hlq lq
  intro K lq hlq hK
  refine wanted_go (by rfl) ?_
  refine ⟨?_, fun W hW => ?_, ?_⟩
  rotate_left
  · skip
    go_simp
    with_reducible rfl
  refine hK _ ?_
  clear hK K
  (try simp only [Act.put, List.setIfInBounds_toArray, List.set_cons_zero, List.set_cons_succ])
  refine wpQuiet_step_h hlq ?_
  clear hlq lq
  intro K lq hlq hK
  refine wanted_go (by rfl) ?_
  refine ⟨.tuple #[.int .i64 k, .bool false], fun W hW => ?_, ?_⟩
  · go_simp
    exact (best_call Hs.out Hd.out Hf.out ((hr.out.later hW.bel).mono (fun b h => Nat.le_trans hW.bel.size h)) Hb.out).mono fun e W2 hc2 => ⟨hc2.1, hW.go hc2.2⟩
  refine hK _ ?_
  clear hK K
  (try simp only [Act.put, List.setIfInBounds_toArray, List.set_cons_zero, List.set_cons_succ])
  refine wpQuiet_step_h hlq ?_
  clear hlq lq
  intro K lq hlq hK
  refine wanted_go (by rfl) ?_
  refine ⟨?_, fun W hW => ?_, ?_⟩
  rotate_left
  · skip
    go_simp
    with_reducible rfl
  refine hK _ ?_
  clear hK K
  (try simp only [Act.put, List.setIfInBounds_toArray, List.set_cons_zero, List.set_cons_succ])
  refine wpQuiet_step_h hlq ?_
  clear hlq lq
  intro K lq hlq hK
  refine wanted_go (by rfl) ?_
  refine ⟨?_, fun W hW => ?_, ?_⟩
  rotate_left
  · skip
    go_simp
    with_reducible rfl
  refine hK _ ?_
  clear hK K
  (try simp only [Act.put, List.setIfInBounds_toArray, List.set_cons_zero, List.set_cons_succ])
  refine wpQuiet_step_h hlq ?_
  clear hlq lq
  intro K lq hlq hK
  refine wanted_go (by rfl) ?_
  refine ⟨?_, fun W hW => ?_, ?_⟩
  rotate_left
  · skip
    go_simp
    with_reducible rfl
  refine hK _ ?_
  clear hK K
  (try simp only [Act.put, List.setIfInBounds_toArray, List.set_cons_zero, List.set_cons_succ])
  refine wpQuiet_step_h hlq ?_
  clear hlq lq
  intro K lq hlq hK
  refine wanted_go (by rfl) ?_
  refine ⟨?_, fun W hW => ?_, ?_⟩
  rotate_left
  · skip
    go_simp
    with_reducible rfl
  refine hK _ ?_
  clear hK K
  (try simp only [Act.put, List.setIfInBounds_toArray, List.set_cons_zero, List.set_cons_succ])
  refine wpQuiet_step_h hlq ?_
  clear hlq lq
  intro K lq hlq hK
  refine wanted_go (by rfl) ?_
  refine ⟨?_, fun W hW => ?_, ?_⟩
  rotate_left
  · skip
    go_simp
    with_reducible rfl
  refine hK _ ?_
  clear hK K
  (try simp only [Act.put, List.setIfInBounds_toArray, List.set_cons_zero, List.set_cons_succ])
  refine wpQuiet_nil_h hlq ?_
  clear hlq lq hV2
  intro V3 hV4
  go_wp2_with fail
  refine wp_region_C (C := Bz w [(w.heap.size + 1, oA dst), (w.heap.size, oA src)]) (by kernel_rfl) (by kernel_rfl) (hV4.drew) ?_
  refine wpQuiet_hide ?_
  intro lq hlq
  refine wpQuiet_step_h hlq ?_
  clear hlq lq
  intro K lq hlq hK
  refine wanted_go (by rfl) ?_
  refine ⟨?_, fun W hW => ?_, ?_⟩
  rotate_left
  · skip
    go_simp
    with_reducible rfl
  refine hK _ ?_
  clear hK K
  (try simp only [Act.put, List.setIfInBounds_toArray, List.set_cons_zero, List.set_cons_succ])
  refine wpQuiet_step_h hlq ?_
  clear hlq lq
  intro K lq hlq hK
  refine wanted_go (by rfl) ?_
  refine ⟨?_, fun W hW => ?_, ?_⟩
  rotate_left
  · skip
    go_simp
    with_reducible rfl
  refine hK _ ?_
  clear hK K
  (try simp only [Act.put, List.setIfInBounds_toArray, List.set_cons_zero, List.set_cons_succ])
  refine wpQuiet_step_h hlq ?_
  clear hlq lq
  intro K lq hlq hK
  go_simp
  refine hK _ ?_
  clear hK K
  refine wpQuiet_step_h hlq ?_
  clear hlq lq
  intro K lq hlq hK
  go_simp
  refine hK _ ?_
  clear hK K
  refine wpQuiet_step_h hlq ?_
  clear hlq lq
  intro K lq hlq hK
  go_simp
  refine hK _ ?_
  clear hK K
  refine wpQuiet_step_h hlq ?_
  clear hlq lq
  intro K lq hlq hK
  go_simp
  refine hK _ ?_
  clear hK K
  refine wpQuiet_step_h hlq ?_
  clear hlq lq
  intro K lq hlq hK
  go_simp
  refine hK _ ?_
  clear hK K
  refine wpQuiet_step_h hlq ?_
  clear hlq lq
  intro K lq hlq hK
  go_simp
  refine hK _ ?_
  clear hK K
  refine wpQuiet_step_h hlq ?_
  clear hlq lq
  intro K lq hlq hK
  go_simp
  refine hK _ ?_
  clear hK K
  refine wpQuiet_step_h hlq ?_
  clear hlq lq
  intro K lq hlq hK
  go_simp
  refine hK _ ?_
  clear hK K
  refine wpQuiet_step_h hlq ?_
  clear hlq lq
  intro K lq hlq hK
  go_simp
  refine hK _ ?_
  clear hK K
  refine wpQuiet_step_h hlq ?_
  clear hlq lq
  intro K lq hlq hK
  go_simp
  refine hK _ ?_
  clear hK K
  refine wpQuiet_step_h hlq ?_
  clear hlq lq
  intro K lq hlq hK
  go_simp
  refine hK _ ?_
  clear hK K
  refine wpQuiet_step_h hlq ?_
  clear hlq lq
  intro K lq hlq hK
  go_simp
  refine hK _ ?_
  clear hK K
  refine wpQuiet_step_h hlq ?_
  clear hlq lq
  intro K lq hlq hK
  go_simp
  refine hK _ ?_
  clear hK K
  refine wpQuiet_step_h hlq ?_
  clear hlq lq
  intro K lq hlq hK
  go_simp
  refine hK _ ?_
  clear hK K
  refine wpQuiet_step_h hlq ?_
  clear hlq lq
  intro K lq hlq hK
  go_simp
  refine hK _ ?_
  clear hK K
  refine wpQuiet_step_h hlq ?_
  clear hlq lq
  intro K lq hlq hK
  go_simp
  refine hK _ ?_
  clear hK K
  refine wpQuiet_step_h hlq ?_
  clear hlq lq
  intro K lq hlq hK
  go_simp
  refine hK _ ?_
  clear hK K
  refine wpQuiet_step_h hlq ?_
  clear hlq lq
  intro K lq hlq hK
  go_simp
  refine hK _ ?_
  clear hK K
  refine wpQuiet_step_h hlq ?_
  clear hlq lq
  intro K lq hlq hK
  refine wanted_go (by rfl) ?_
  refine ⟨?_, fun W hW => ?_, ?_⟩
  rotate_left
  · skip
    go_simp
    with_reducible rfl
  refine hK _ ?_
  clear hK K
  (try simp only [Act.put, List.setIfInBounds_toArray, List.set_cons_zero, List.set_cons_succ])
  refine wpQuiet_nil_h hlq ?_
  clear hlq lq hV4
  intro V5 hV6
  go_wp2_with fail
  go_loopw [9] (fun x9 wr => ∃ i : Nat, x9 = .int .i64 i ∧ i ≤ l.length ∧ Bz w [(w.heap.size + 1, oA dst), (w.heap.size, oA src)] wr) (fun x9 wr => l.length - (intOf x9).toNat)
  case atStart => exact ⟨0, rfl, by omega, hV6⟩
  case round =>
    obtain ⟨i, rfl, hi, bx⟩ := hrel
    by_cases hlt2 : i < l.length
    · obtain ⟨p, hget⟩ := get_some hlt2
      have hp := Lib.hid (Hf.out p (List.mem_of_getElem? hget))
      have hm := Lib.hid ((Hb.out.no rfl).2 i p hlt2 hget)
      obtain ⟨b, o, rfl, -, -, -⟩ := hr.out.at_ (by omega)
      replace hget := Lib.hid hget
      have hi1 : (i : Int) < l.length := by omega
      have hi3 : decide ((i : Int) < l.length) = true := decide_eq_true hi1
      have hi2 : (i : Int) + 1 ≤ 9223372036854775807 := by omega
      go_wp2_with fail
      refine wp_region_C (C := Bz w [(w.heap.size + 1, oA dst), (w.heap.size, oA src)]) (by kernel_rfl) (by kernel_rfl) (bx.drew) ?_
      refine wpQuiet_hide ?_
      intro lq hlq
      refine wpQuiet_step_h hlq ?_
      clear hlq lq
      intro K lq hlq hK
      refine wanted_go (by rfl) ?_
      refine ⟨?_, fun W hW => ?_, ?_⟩
      rotate_left
      · skip
        go_simp
        with_reducible rfl
      refine hK _ ?_
      clear hK K
      (try simp only [Act.put, List.setIfInBounds_toArray, List.set_cons_zero, List.set_cons_succ])
      refine wpQuiet_step_h hlq ?_
      clear hlq lq
      intro K lq hlq hK
      refine wanted_go (by rfl) ?_
      refine ⟨?_, fun W hW => ?_, ?_⟩
      rotate_left
      · skip
        go_simp
        with_reducible rfl
      refine hK _ ?_
      clear hK K
      (try simp only [Act.put, List.setIfInBounds_toArray, List.set_cons_zero, List.set_cons_succ])
      refine wpQuiet_step_h hlq ?_
      clear hlq lq
      intro K lq hlq hK
      refine wanted_go (by rfl) ?_
      refine ⟨?_, fun W hW => ?_, ?_⟩
      rotate_left
      · skip
        go_simp
        with_reducible rfl
      refine hK _ ?_
      clear hK K
      (try simp only [Act.put, List.setIfInBounds_toArray, List.set_cons_zero, List.set_cons_succ])
      refine wpQuiet_step_h hlq ?_
      clear hlq lq
      intro K lq hlq hK
      refine wanted_go (by rfl) ?_
      refine ⟨vPP p, fun W hW => ?_, ?_⟩
      · skip
        exact quiet_load 57 _ rfl rfl (ld_el (hr.out.later hW.bel) Hf.out hget.out)
      refine hK _ ?_
      clear hK K
      (try simp only [Act.put, List.setIfInBounds_toArray, List.set_cons_zero, List.set_cons_succ])
      refine wpQuiet_step_h hlq ?_
      clear hlq lq
      intro K lq hlq hK
      refine wanted_go (by rfl) ?_
      refine ⟨vA src, fun W hW => ?_, ?_⟩
      · skip
        exact quiet_load 42 _ rfl rfl (ldA (hW.all.get 1 (x := (w.heap.size, oA src)) rfl) Hs.out)
      refine hK _ ?_
      clear hK K
      (try simp only [Act.put, List.setIfInBounds_toArray, List.set_cons_zero, List.set_cons_succ])
      refine wpQuiet_step_h hlq ?_
      clear hlq lq
      intro K lq hlq hK
      refine wanted_go (by rfl) ?_
      refine ⟨vA dst, fun W hW => ?_, ?_⟩
      · skip
        exact quiet_load 42 _ rfl rfl (ldA (hW.all.get 0 (x := (w.heap.size + 1, oA dst)) rfl) Hd.out)
      refine hK _ ?_
      clear hK K
      (try simp only [Act.put, List.setIfInBounds_toArray, List.set_cons_zero, List.set_cons_succ])
      refine wpQuiet_step_h hlq ?_
      clear hlq lq
      intro K lq hlq hK
      refine wanted_go (by rfl) ?_
      refine ⟨.bool false, fun W hW => ?_, ?_⟩
      · go_simp
        exact (mat_call hp.out Hs.out Hd.out hm.out).mono fun e W2 hc2 => ⟨hc2.1, hW.go hc2.2⟩
      refine hK _ ?_
      clear hK K
      (try simp only [Act.put, List.setIfInBounds_toArray, List.set_cons_zero, List.set_cons_succ])
      refine wpQuiet_step_h hlq ?_
      clear hlq lq
      intro K lq hlq hK
      refine wanted_go (by rfl) ?_
      refine ⟨?_, fun W hW => ?_, ?_⟩
      rotate_left
      · skip
        go_simp
        with_reducible rfl
      refine hK _ ?_
      clear hK K
      (try simp only [Act.put, List.setIfInBounds_toArray, List.set_cons_zero, List.set_cons_succ])
      refine wpQuiet_nil_h hlq ?_
      clear hlq lq bx
      intro V1 hV2
      go_wp2_with fail
      refine ⟨⟨i + 1, by congr 1, by omega, hV2⟩, by simp [intOf]; omega⟩
    · obtain rfl : i = l.length := by omega
      have hi3 : decide ((l.length : Int) < l.length) = false := decide_eq_false (by omega)
      go_wp2_with (go_at_call 28; refine (live02_any (bx.env E)).mono ?_; rintro e w5 ⟨rfl, bel⟩)
      go_ret
      exact ⟨rfl, (bx.go bel).bel⟩
set_option maxRecDepth 100000 in
set_option maxHeartbeats 3200000 in
theorem most_yes {l : List Pr} {v : Value} {src dst : List Int} {w : World} (hs : isA src) (hd : isA dst) (hf : ∀ p ∈ l, p.fit) (hr : Prs w v l) (E : Env w) (h : l.length ≤ 60) {k : Nat} (hb : IsBest l src dst l.length k true) : Calls Tryz.prog 7 #[v, vA src, vA dst] w fun e w' => e = .returned (.bool true) ∧ Below w.heap.size w w' := by
  obtain ⟨h0, A, c, rfl, q1, q2, q3, q5⟩ := id hr
  replace hr := Lib.hid hr
  have Hs := Lib.hid hs
  have Hd := Lib.hid hd
  have Hf := Lib.hid hf
  have Hb := Lib.hid hb
  have bx := (((Bz.start w).alloc (oA src) rfl).alloc (oA dst) (World.size_alloc _ _) : Bz w [(w.heap.size + 1, oA dst), (w.heap.size, oA src)] _)
  obtain ⟨hk, y, hy, hym, hall⟩ := hb.yes rfl
  have Hy := Lib.hid (Hf.out y (List.mem_of_getElem? hy))
  replace hall := Lib.hid hall
  obtain ⟨b, o, rfl, -, -, -⟩ := hr.out.at_ (by omega)
  replace hy := Lib.hid hy
  replace hym := Lib.hid hym
  have hk1 : (k : Int) < l.length := by omega
  have hk2 : decide ((k : Int) < 0) = false := decide_eq_false (by omega)
  have hk3 : decide ((l.length : Int) ≤ k) = false := decide_eq_false (by omega)
  have hk4 : decide (l.length ≤ k) = false := decide_eq_false (by omega)
  clear q5 h0 hs hd hf hb hk
  have hlt : decide (60 < (l.length : Int)) = false := decide_eq_false (by omega)
  unfold vA
  go_enter Tryz.func7, Tryz.ntmps7
  go_wp2_with (refine wpList_quiet (C := Bz w [(w.heap.size + 1, oA dst), (w.heap.size, oA src)]) 2 (by rfl) bx ?_)
  refine wpQuiet_hide ?_
  intro lq hlq
  refine wpQuiet_step_h hlq ?_
  clear hlq lq
  intro K lq hlq hK
  refine wanted_go (by rfl) ?_
  refine ⟨?_, fun W hW => ?_, ?_⟩
  rotate_left
  · skip
    go_simp
    with_reducible rfl
  refine hK _ ?_
  clear hK K
  (try simp only [Act.put, List.setIfInBounds_toArray, List.set_cons_zero, List.set_cons_succ])
  refine wpQuiet_step_h hlq ?_
  clear hlq lq
  intro K lq hlq hK
  refine wanted_go (by rfl) ?_
  refine ⟨?_, fun W hW => ?_, ?_⟩
  rotate_left
  · skip
    go_simp
    with_reducible rfl
  refine hK _ ?_
  clear hK K
  (try simp only [Act.put, List.setIfInBounds_toArray, List.set_cons_zero, List.set_cons_succ])
  refine wpQuiet_nil_h hlq ?_
  clear hlq lq bx
  intro V1 hV2
  go_wp2_with (refine wpList_quiet (C := Bz w [(w.heap.size + 1, oA dst), (w.heap.size, oA src)]) 9 (by rfl) hV2 ?_)
  refine wpQuiet_hide ?_
  intro lq hlq
  refine wpQuiet_step_h hlq ?_
  clear hlq lq
  intro K lq hlq hK
  refine wanted_go (by rfl) ?_
  refine ⟨vA src, fun W hW => ?_, ?_⟩
  · skip
    exact quiet_load 42 _ rfl rfl (ldA (hW.all.get 1 (x := (w.heap.size, oA src)) rfl) Hs.out)
  refine hK _ ?_
  clear hK K
  (try simp only [Act.put, List.setIfInBounds_toArray, List.set_cons_zero, List.set_cons_succ])
  refine wpQuiet_step_h hlq ?_
  clear hlq lq
  intro K lq hlq hK
  refine wanted_go (by rfl) ?_
  refine ⟨vA dst, fun W hW => ?_, ?_⟩
  · skip
    exact quiet_load 42 _ rfl rfl (ldA (hW.all.get 0 (x := (w.heap.size + 1, oA dst)) rfl) Hd.out)
  refine hK _ ?_
  clear hK K
  (try simp only [Act.put, List.setIfInBounds_toArray, List.set_cons_zero, List.set_cons_succ])
  refine wpQuiet_step_h hlq ?_
  clear hlq lq
  intro K lq hlq hK
  refine wanted_go (by rfl) ?_
  refine ⟨?_, fun W hW => ?_, ?_⟩
  rotate_left
  · skip
    go_simp
    with_reducible rfl
  refine hK _ ?_
  clear hK K
  (try simp only [Act.put, List.setIfInBounds_toArray, List.set_cons_zero, List.set_cons_succ])
  refine wpQuiet_step_h hlq ?_
  clear hlq lq
  intro K lq hlq hK
  refine wanted_go (by rfl) ?_
  refine ⟨.tuple #[.int .i64 k, .bool true], fun W hW => ?_, ?_⟩
  · go_simp
    exact (best_call Hs.out Hd.out Hf.out ((hr.out.later hW.bel).mono (fun b h => Nat.le_trans hW.bel.size h)) Hb.out).mono fun e W2 hc2 => ⟨hc2.1, hW.go hc2.2⟩
  refine hK _ ?_
  clear hK K
  (try simp only [Act.put, List.setIfInBounds_toArray, List.set_cons_zero, List.set_cons_succ])
  refine wpQuiet_step_h hlq ?_
  clear hlq lq
  intro K lq hlq hK
  refine wanted_go (by rfl) ?_
  refine ⟨?_, fun W hW => ?_, ?_⟩
  rotate_left
  · skip
    go_simp
    with_reducible rfl
  refine hK _ ?_
  clear hK K
  (try simp only [Act.put, List.setIfInBounds_toArray, List.set_cons_zero, List.set_cons_succ])
  refine wpQuiet_step_h hlq ?_
  clear hlq lq
  intro K lq hlq hK
  refine wanted_go (by rfl) ?_
  refine ⟨?_, fun W hW => ?_, ?_⟩
  rotate_left
  · skip
    go_simp
    with_reducible rfl
  refine hK _ ?_
  clear hK K
  (try simp only [Act.put, List.setIfInBounds_toArray, List.set_cons_zero, List.set_cons_succ])
  refine wpQuiet_step_h hlq ?_
  clear hlq lq
  intro K lq hlq hK
  refine wanted_go (by rfl) ?_
  refine ⟨?_, fun W hW => ?_, ?_⟩
  rotate_left
  · skip
    go_simp
    with_reducible rfl
  refine hK _ ?_
  clear hK K
  (try simp only [Act.put, List.setIfInBounds_toArray, List.set_cons_zero, List.set_cons_succ])
  refine wpQuiet_step_h hlq ?_
  clear hlq lq
  intro K lq hlq hK
  refine wanted_go (by rfl) ?_
  refine ⟨?_, fun W hW => ?_, ?_⟩
  rotate_left
  · skip
    go_simp
    with_reducible rfl
  refine hK _ ?_
  clear hK K
  (try simp only [Act.put, List.setIfInBounds_toArray, List.set_cons_zero, List.set_cons_succ])
  refine wpQuiet_step_h hlq ?_
  clear hlq lq
  intro K lq hlq hK
  refine wanted_go (by rfl) ?_
  refine ⟨?_, fun W hW => ?_, ?_⟩
  rotate_left
  · skip
    go_simp
    with_reducible rfl
  refine hK _ ?_
  clear hK K
  (try simp only [Act.put, List.setIfInBounds_toArray, List.set_cons_zero, List.set_cons_succ])
  refine wpQuiet_nil_h hlq ?_
  clear hlq lq hV2
  intro V3 hV4
  go_wp2_with fail
  refine wp_region_C (C := Bz w [(w.heap.size + 1, oA dst), (w.heap.size, oA src)]) (by kernel_rfl) (by kernel_rfl) (hV4.drew) ?_
  refine wpQuiet_hide ?_
  intro lq hlq
  refine wpQuiet_step_h hlq ?_
  clear hlq lq
  intro K lq hlq hK
  refine wanted_go (by rfl) ?_
  refine ⟨?_, fun W hW => ?_, ?_⟩
  rotate_left
  · skip
    go_simp
    with_reducible rfl
  refine hK _ ?_
  clear hK K
  (try simp only [Act.put, List.setIfInBounds_toArray, List.set_cons_zero, List.set_cons_succ])
  refine wpQuiet_step_h hlq ?_
  clear hlq lq
  intro K lq hlq hK
  refine wanted_go (by rfl) ?_
  refine ⟨?_, fun W hW => ?_, ?_⟩
  rotate_left
  · skip
    go_simp
    with_reducible rfl
  refine hK _ ?_
  clear hK K
  (try simp only [Act.put, List.setIfInBounds_toArray, List.set_cons_zero, List.set_cons_succ])
  refine wpQuiet_step_h hlq ?_
  clear hlq lq
  intro K lq hlq hK
  refine wanted_go (by rfl) ?_
  refine ⟨?_, fun W hW => ?_, ?_⟩
  rotate_left
  · skip
    go_simp
    with_reducible rfl
  refine hK _ ?_
  clear hK K
  (try simp only [Act.put, List.setIfInBounds_toArray, List.set_cons_zero, List.set_cons_succ])
  refine wpQuiet_step_h hlq ?_
  clear hlq lq
  intro K lq hlq hK
  refine wanted_go (by rfl) ?_
  refine ⟨?_, fun W hW => ?_, ?_⟩
  rotate_left
  · skip
    go_simp
    with_reducible rfl
  refine hK _ ?_
  clear hK K
  (try simp only [Act.put, List.setIfInBounds_toArray, List.set_cons_zero, List.set_cons_succ])
  refine wpQuiet_step_h hlq ?_
  clear hlq lq
  intro K lq hlq hK
  refine wanted_go (by rfl) ?_
  refine ⟨?_, fun W hW => ?_, ?_⟩
  rotate_left
  · skip
    go_simp
    with_reducible rfl
  refine hK _ ?_
  clear hK K
  (try simp only [Act.put, List.setIfInBounds_toArray, List.set_cons_zero, List.set_cons_succ])
  refine wpQuiet_step_h hlq ?_
  clear hlq lq
  intro K lq hlq hK
  refine wanted_go (by rfl) ?_
  refine ⟨?_, fun W hW => ?_, ?_⟩
  rotate_left
  · skip
    go_simp
    with_reducible rfl
  refine hK _ ?_
  clear hK K
  (try simp only [Act.put, List.setIfInBounds_toArray, List.set_cons_zero, List.set_cons_succ])
  refine wpQuiet_step_h hlq ?_
  clear hlq lq
  intro K lq hlq hK
  refine wanted_go (by rfl) ?_
  refine ⟨?_, fun W hW => ?_, ?_⟩
  rotate_left
  · skip
    go_simp
    with_reducible rfl
  refine hK _ ?_
  clear hK K
  (try simp only [Act.put, List.setIfInBounds_toArray, List.set_cons_zero, List.set_cons_succ])
  refine wpQuiet_step_h hlq ?_
  clear hlq lq
  intro K lq hlq hK
  refine wanted_go (by rfl) ?_
  refine ⟨?_, fun W hW => ?_, ?_⟩
  rotate_left
  · skip
    go_simp
    with_reducible rfl
  refine hK _ ?_
  clear hK K
  (try simp only [Act.put, List.setIfInBounds_toArray, List.set_cons_zero, List.set_cons_succ])
  refine wpQuiet_step_h hlq ?_
  clear hlq lq
  intro K lq hlq hK
  refine wanted_go (by rfl) ?_
  refine ⟨?_, fun W hW => ?_, ?_⟩
  rotate_left
  · skip
    go_simp
    with_reducible rfl
  refine hK _ ?_
  clear hK K
  (try simp only [Act.put, List.setIfInBounds_toArray, List.set_cons_zero, List.set_cons_succ])
  refine wpQuiet_step_h hlq ?_
  clear hlq lq
  intro K lq hlq hK
  refine wanted_go (by rfl) ?_
  refine ⟨?_, fun W hW => ?_, ?_⟩
  rotate_left
  · skip
    go_simp
    with_reducible rfl
  refine hK _ ?_
  clear hK K
  (try simp only [Act.put, List.setIfInBounds_toArray, List.set_cons_zero, List.set_cons_succ])
  refine wpQuiet_step_h hlq ?_
  clear hlq lq
  intro K lq hlq hK
  refine wanted_go (by rfl) ?_
  refine ⟨?_, fun W hW => ?_, ?_⟩
  rotate_left
  · skip
    go_simp
    with_reducible rfl
  refine hK _ ?_
  clear hK K
  (try simp only [Act.put, List.setIfInBounds_toArray, List.set_cons_zero, List.set_cons_succ])
  refine wpQuiet_step_h hlq ?_
  clear hlq lq
  intro K lq hlq hK
  refine wanted_go (by rfl) ?_
  refine ⟨?_, fun W hW => ?_, ?_⟩
  rotate_left
  · skip
    go_simp
    with_reducible rfl
  refine hK _ ?_
  clear hK K
  (try simp only [Act.put, List.setIfInBounds_toArray, List.set_cons_zero, List.set_cons_succ])
  refine wpQuiet_step_h hlq ?_
  clear hlq lq
  intro K lq hlq hK
  refine wanted_go (by rfl) ?_
  refine ⟨?_, fun W hW => ?_, ?_⟩
  rotate_left
  · skip
    go_simp
    with_reducible rfl
  refine hK _ ?_
  clear hK K
  (try simp only [Act.put, List.setIfInBounds_toArray, List.set_cons_zero, List.set_cons_succ])
  refine wpQuiet_step_h hlq ?_
  clear hlq lq
  intro K lq hlq hK
  refine wanted_go (by rfl) ?_
  refine ⟨?_, fun W hW => ?_, ?_⟩
  rotate_left
  · skip
    go_simp
    with_reducible rfl
  refine hK _ ?_
  clear hK K
  (try simp only [Act.put, List.setIfInBounds_toArray, List.set_cons_zero, List.set_cons_succ])
  refine wpQuiet_step_h hlq ?_
  clear hlq lq
  intro K lq hlq hK
  refine wanted_go (by rfl) ?_
  refine ⟨vPP y, fun W hW => ?_, ?_⟩
  · skip
    exact quiet_load 57 _ rfl rfl (ld_el (hr.out.later hW.bel) Hf.out hy.out)
  refine hK _ ?_
  clear hK K
  (try simp only [Act.put, List.setIfInBounds_toArray, List.set_cons_zero, List.set_cons_succ])
  refine wpQuiet_step_h hlq ?_
  clear hlq lq
  intro K lq hlq hK
  refine wanted_go (by rfl) ?_
  refine ⟨vA src, fun W hW => ?_, ?_⟩
  · skip
    exact quiet_load 42 _ rfl rfl (ldA (hW.all.get 1 (x := (w.heap.size, oA src)) rfl) Hs.out)
  refine hK _ ?_
  clear hK K
  (try simp only [Act.put, List.setIfInBounds_toArray, List.set_cons_zero, List.set_cons_succ])
  refine wpQuiet_step_h hlq ?_
  clear hlq lq
  intro K lq hlq hK
  refine wanted_go (by rfl) ?_
  refine ⟨vA dst, fun W hW => ?_, ?_⟩
  · skip
    exact quiet_load 42 _ rfl rfl (ldA (hW.all.get 0 (x := (w.heap.size + 1, oA dst)) rfl) Hd.out)
  refine hK _ ?_
  clear hK K
  (try simp only [Act.put, List.setIfInBounds_toArray, List.set_cons_zero, List.set_cons_succ])
  refine wpQuiet_step_h hlq ?_
  clear hlq lq
  intro K lq hlq hK
  refine wanted_go (by rfl) ?_
  refine ⟨.bool true, fun W hW => ?_, ?_⟩
  · go_simp
    exact (mat_call Hy.out Hs.out Hd.out hym.out).mono fun e W2 hc2 => ⟨hc2.1, hW.go hc2.2⟩
  refine hK _ ?_
  clear hK K
  (try simp only [Act.put, List.setIfInBounds_toArray, List.set_cons_zero, List.set_cons_succ])
  refine wpQuiet_step_h hlq ?_
  clear hlq lq
  intro K lq hlq hK
  refine wanted_go (by rfl) ?_
  refine ⟨?_, fun W hW => ?_, ?_⟩
  rotate_left
  · skip
    go_simp
    with_reducible rfl
  refine hK _ ?_
  clear hK K
  (try simp only [Act.put, List.setIfInBounds_toArray, List.set_cons_zero, List.set_cons_succ])
  refine wpQuiet_step_h hlq ?_
  clear hlq lq
  intro K lq hlq hK
  refine wanted_go (by rfl) ?_
  refine ⟨?_, fun W hW => ?_, ?_⟩
  rotate_left
  · skip
    go_simp
    with_reducible rfl
  refine hK _ ?_
  clear hK K
  (try simp only [Act.put, List.setIfInBounds_toArray, List.set_cons_zero, List.set_cons_succ])
  refine wpQuiet_step_h hlq ?_
  clear hlq lq
  intro K lq hlq hK
  refine wanted_go (by rfl) ?_
  refine ⟨?_, fun W hW => ?_, ?_⟩
  rotate_left
  · skip
    go_simp
    with_reducible rfl
  refine hK _ ?_
  clear hK K
  (try simp only [Act.put, List.setIfInBounds_toArray, List.set_cons_zero, List.set_cons_succ])
  refine wpQuiet_nil_h hlq ?_
  clear hlq lq hV4
  intro V5 hV6
  go_wp2_with fail
  go_loopw [9] (fun x9 wr => ∃ i : Nat, x9 = .int .i64 i ∧ i ≤ l.length ∧ Bz w [(w.heap.size + 1, oA dst), (w.heap.size, oA src)] wr) (fun x9 wr => l.length - (intOf x9).toNat)
  case atStart => exact ⟨0, rfl, by omega, hV6⟩
  case round =>
    obtain ⟨i, rfl, hi, bx⟩ := hrel
    by_cases hlt2 : i < l.length
    · obtain ⟨p, hget⟩ := get_some hlt2
      have hp := Lib.hid (Hf.out p (List.mem_of_getElem? hget))
      replace hget := Lib.hid hget
      have hi1 : (i : Int) < l.length := by omega
      have hi3 : decide ((i : Int) < l.length) = true := decide_eq_true hi1
      have hi2 : (i : Int) + 1 ≤ 9223372036854775807 := by omega
      obtain ⟨m, hm⟩ : ∃ m, mat p src dst = m := ⟨_, rfl⟩
      cases m
      · replace hm := Lib.hid hm
        go_wp2_with fail
        refine wp_region_C (C := Bz w [(w.heap.size + 1, oA dst), (w.heap.size, oA src)]) (by kernel_rfl) (by kernel_rfl) (bx.drew) ?_
        refine wpQuiet_hide ?_
        intro lq hlq
        refine wpQuiet_step_h hlq ?_
        clear hlq lq
        intro K lq hlq hK
        refine wanted_go (by rfl) ?_
        refine ⟨?_, fun W hW => ?_, ?_⟩
        rotate_left
        · skip
          go_simp
          with_reducible rfl
        refine hK _ ?_
        clear hK K
        (try simp only [Act.put, List.setIfInBounds_toArray, List.set_cons_zero, List.set_cons_succ])
        refine wpQuiet_step_h hlq ?_
        clear hlq lq
        intro K lq hlq hK
        refine wanted_go (by rfl) ?_
        refine ⟨?_, fun W hW => ?_, ?_⟩
        rotate_left
        · skip
          go_simp
          with_reducible rfl
        refine hK _ ?_
        clear hK K
        (try simp only [Act.put, List.setIfInBounds_toArray, List.set_cons_zero, List.set_cons_succ])
        refine wpQuiet_step_h hlq ?_
        clear hlq lq
        intro K lq hlq hK
        refine wanted_go (by rfl) ?_
        refine ⟨?_, fun W hW => ?_, ?_⟩
        rotate_left
        · skip
          go_simp
          with_reducible rfl
        refine hK _ ?_
        clear hK K
        (try simp only [Act.put, List.setIfInBounds_toArray, List.set_cons_zero, List.set_cons_succ])
        refine wpQuiet_step_h hlq ?_
        clear hlq lq
        intro K lq hlq hK
        refine wanted_go (by rfl) ?_
        refine ⟨vPP p, fun W hW => ?_, ?_⟩
        · skip
          exact quiet_load 57 _ rfl rfl (ld_el (hr.out.later hW.bel) Hf.out hget.out)
        refine hK _ ?_
        clear hK K
        (try simp only [Act.put, List.setIfInBounds_toArray, List.set_cons_zero, List.set_cons_succ])
        refine wpQuiet_step_h hlq ?_
        clear hlq lq
        intro K lq hlq hK
        refine wanted_go (by rfl) ?_
        refine ⟨vA src, fun W hW => ?_, ?_⟩
        · skip
          exact quiet_load 42 _ rfl rfl (ldA (hW.all.get 1 (x := (w.heap.size, oA src)) rfl) Hs.out)
        refine hK _ ?_
        clear hK K
        (try simp only [Act.put, List.setIfInBounds_toArray, List.set_cons_zero, List.set_cons_succ])
        refine wpQuiet_step_h hlq ?_
        clear hlq lq
        intro K lq hlq hK
        refine wanted_go (by rfl) ?_
        refine ⟨vA dst, fun W hW => ?_, ?_⟩
        · skip
          exact quiet_load 42 _ rfl rfl (ldA (hW.all.get 0 (x := (w.heap.size + 1, oA dst)) rfl) Hd.out)
        refine hK _ ?_
        clear hK K
        (try simp only [Act.put, List.setIfInBounds_toArray, List.set_cons_zero, List.set_cons_succ])
        refine wpQuiet_step_h hlq ?_
        clear hlq lq
        intro K lq hlq hK
        refine wanted_go (by rfl) ?_
        refine ⟨.bool false, fun W hW => ?_, ?_⟩
        · go_simp
          exact (mat_call hp.out Hs.out Hd.out hm.out).mono fun e W2 hc2 => ⟨hc2.1, hW.go hc2.2⟩
        refine hK _ ?_
        clear hK K
        (try simp only [Act.put, List.setIfInBounds_toArray, List.set_cons_zero, List.set_cons_succ])
        refine wpQuiet_step_h hlq ?_
        clear hlq lq
        intro K lq hlq hK
        refine wanted_go (by rfl) ?_
        refine ⟨?_, fun W hW => ?_, ?_⟩
        rotate_left
        · skip
          go_simp
          with_reducible rfl
        refine hK _ ?_
        clear hK K
        (try simp only [Act.put, List.setIfInBounds_toArray, List.set_cons_zero, List.set_cons_succ])
        refine wpQuiet_nil_h hlq ?_
        clear hlq lq bx
        intro V1 hV2
        go_wp2_with fail
        refine ⟨⟨i + 1, by congr 1, by omega, hV2⟩, by simp [intOf]; omega⟩
      · have hrel2 := hall.out i p hlt2 hget.out hm
        replace hm := Lib.hid hm
        rcases hrel2 with h1 | ⟨h1, h2 | ⟨h2, h3⟩⟩
        · have f1 : decide (y.d.n < p.d.n) = false := decide_eq_false (by omega)
          have f2 : (p.d.n == y.d.n) = false := by rw [beq_eq_false_iff_ne]; omega
          have f2' : decide (p.d.n = y.d.n) = false := decide_eq_false (by omega)
          replace h1 := Lib.hid h1
          go_wp2_with fail
          refine wp_region_C (C := Bz w [(w.heap.size + 1, oA dst), (w.heap.size, oA src)]) (by kernel_rfl) (by kernel_rfl) (bx.drew) ?_
          refine wpQuiet_hide ?_
          intro lq hlq
          refine wpQuiet_step_h hlq ?_
          clear hlq lq
          intro K lq hlq hK
          refine wanted_go (by rfl) ?_
          refine ⟨?_, fun W hW => ?_, ?_⟩
          rotate_left
          · skip
            go_simp
            with_reducible rfl
          refine hK _ ?_
          clear hK K
          (try simp only [Act.put, List.setIfInBounds_toArray, List.set_cons_zero, List.set_cons_succ])
          refine wpQuiet_step_h hlq ?_
          clear hlq lq
          intro K lq hlq hK
          refine wanted_go (by rfl) ?_
          refine ⟨?_, fun W hW => ?_, ?_⟩
          rotate_left
          · skip
            go_simp
            with_reducible rfl
          refine hK _ ?_
          clear hK K
          (try simp only [Act.put, List.setIfInBounds_toArray, List.set_cons_zero, List.set_cons_succ])
          refine wpQuiet_step_h hlq ?_
          clear hlq lq
          intro K lq hlq hK
          refine wanted_go (by rfl) ?_
          refine ⟨?_, fun W hW => ?_, ?_⟩
          rotate_left
          · skip
            go_simp
            with_reducible rfl
          refine hK _ ?_
          clear hK K
          (try simp only [Act.put, List.setIfInBounds_toArray, List.set_cons_zero, List.set_cons_succ])
          refine wpQuiet_step_h hlq ?_
          clear hlq lq
          intro K lq hlq hK
          refine wanted_go (by rfl) ?_
          refine ⟨vPP p, fun W hW => ?_, ?_⟩
          · skip
            exact quiet_load 57 _ rfl rfl (ld_el (hr.out.later hW.bel) Hf.out hget.out)
          refine hK _ ?_
          clear hK K
          (try simp only [Act.put, List.setIfInBounds_toArray, List.set_cons_zero, List.set_cons_succ])
          refine wpQuiet_step_h hlq ?_
          clear hlq lq
          intro K lq hlq hK
          refine wanted_go (by rfl) ?_
          refine ⟨vA src, fun W hW => ?_, ?_⟩
          · skip
            exact quiet_load 42 _ rfl rfl (ldA (hW.all.get 1 (x := (w.heap.size, oA src)) rfl) Hs.out)
          refine hK _ ?_
          clear hK K
          (try simp only [Act.put, List.setIfInBounds_toArray, List.set_cons_zero, List.set_cons_succ])
          refine wpQuiet_step_h hlq ?_
          clear hlq lq
          intro K lq hlq hK
          refine wanted_go (by rfl) ?_
          refine ⟨vA dst, fun W hW => ?_, ?_⟩
          · skip
            exact quiet_load 42 _ rfl rfl (ldA (hW.all.get 0 (x := (w.heap.size + 1, oA dst)) rfl) Hd.out)
          refine hK _ ?_
          clear hK K
          (try simp only [Act.put, List.setIfInBounds_toArray, List.set_cons_zero, List.set_cons_succ])
          refine wpQuiet_step_h hlq ?_
          clear hlq lq
          intro K lq hlq hK
          refine wanted_go (by rfl) ?_
          refine ⟨.bool true, fun W hW => ?_, ?_⟩
          · go_simp
            exact (mat_call hp.out Hs.out Hd.out hm.out).mono fun e W2 hc2 => ⟨hc2.1, hW.go hc2.2⟩
          refine hK _ ?_
          clear hK K
          (try simp only [Act.put, List.setIfInBounds_toArray, List.set_cons_zero, List.set_cons_succ])
          refine wpQuiet_step_h hlq ?_
          clear hlq lq
          intro K lq hlq hK
          refine wanted_go (by rfl) ?_
          refine ⟨?_, fun W hW => ?_, ?_⟩
          rotate_left
          · skip
            go_simp
            with_reducible rfl
          refine hK _ ?_
          clear hK K
          (try simp only [Act.put, List.setIfInBounds_toArray, List.set_cons_zero, List.set_cons_succ])
          refine wpQuiet_nil_h hlq ?_
          clear hlq lq bx
          intro V1 hV2
          go_wp2_with fail
          refine wp_region_C (C := Bz w [(w.heap.size + 1, oA dst), (w.heap.size, oA src)]) (by kernel_rfl) (by kernel_rfl) (hV2.drew) ?_
          refine wpQuiet_hide ?_
          intro lq hlq
          refine wpQuiet_step_h hlq ?_
          clear hlq lq
          intro K lq hlq hK
          refine wanted_go (by rfl) ?_
          refine ⟨?_, fun W hW => ?_, ?_⟩
          rotate_left
          · skip
            go_simp
            with_reducible rfl
          refine hK _ ?_
          clear hK K
          (try simp only [Act.put, List.setIfInBounds_toArray, List.set_cons_zero, List.set_cons_succ])
          refine wpQuiet_step_h hlq ?_
          clear hlq lq
          intro K lq hlq hK
          refine wanted_go (by rfl) ?_
          refine ⟨?_, fun W hW => ?_, ?_⟩
          rotate_left
          · skip
            go_simp
            with_reducible rfl
          refine hK _ ?_
          clear hK K
          (try simp only [Act.put, List.setIfInBounds_toArray, List.set_cons_zero, List.set_cons_succ])
          refine wpQuiet_step_h hlq ?_
          clear hlq lq
          intro K lq hlq hK
          refine wanted_go (by rfl) ?_
          refine ⟨?_, fun W hW => ?_, ?_⟩
          rotate_left
          · skip
            go_simp
            with_reducible rfl
          refine hK _ ?_
          clear hK K
          (try simp only [Act.put, List.setIfInBounds_toArray, List.set_cons_zero, List.set_cons_succ])
          refine wpQuiet_step_h hlq ?_
          clear hlq lq
          intro K lq hlq hK
          refine wanted_go (by rfl) ?_
          refine ⟨?_, fun W hW => ?_, ?_⟩
          rotate_left
          · skip
            go_simp
            with_reducible rfl
          refine hK _ ?_
          clear hK K
          (try simp only [Act.put, List.setIfInBounds_toArray, List.set_cons_zero, List.set_cons_succ])
          refine wpQuiet_step_h hlq ?_
          clear hlq lq
          intro K lq hlq hK
          refine wanted_go (by rfl) ?_
          refine ⟨?_, fun W hW => ?_, ?_⟩
          rotate_left
          · skip
            go_simp
            with_reducible rfl
          refine hK _ ?_
          clear hK K
          (try simp only [Act.put, List.setIfInBounds_toArray, List.set_cons_zero, List.set_cons_succ])
          refine wpQuiet_step_h hlq ?_
          clear hlq lq
          intro K lq hlq hK
          refine wanted_go (by rfl) ?_
          refine ⟨?_, fun W hW => ?_, ?_⟩
          rotate_left
          · skip
            go_simp
            with_reducible rfl
          refine hK _ ?_
          clear hK K
          (try simp only [Act.put, List.setIfInBounds_toArray, List.set_cons_zero, List.set_cons_succ])
          refine wpQuiet_step_h hlq ?_
          clear hlq lq
          intro K lq hlq hK
          refine wanted_go (by rfl) ?_
          refine ⟨?_, fun W hW => ?_, ?_⟩
          rotate_left
          · skip
            go_simp
            with_reducible rfl
          refine hK _ ?_
          clear hK K
          (try simp only [Act.put, List.setIfInBounds_toArray, List.set_cons_zero, List.set_cons_succ])
          refine wpQuiet_step_h hlq ?_
          clear hlq lq
          intro K lq hlq hK
          refine wanted_go (by rfl) ?_
          refine ⟨?_, fun W hW => ?_, ?_⟩
          rotate_left
          · skip
            go_simp
            with_reducible rfl
          refine hK _ ?_
          clear hK K
          (try simp only [Act.put, List.setIfInBounds_toArray, List.set_cons_zero, List.set_cons_succ])
          refine wpQuiet_step_h hlq ?_
          clear hlq lq
          intro K lq hlq hK
          refine wanted_go (by rfl) ?_
          refine ⟨.int .i64 p.d.n, fun W hW => ?_, ?_⟩
          · skip
            exact quiet_load 3 _ rfl rfl (ld_dn (hr.out.later hW.bel) Hf.out hget.out)
          refine hK _ ?_
          clear hK K
          (try simp only [Act.put, List.setIfInBounds_toArray, List.set_cons_zero, List.set_cons_succ])
          refine wpQuiet_step_h hlq ?_
          clear hlq lq
          intro K lq hlq hK
          refine wanted_go (by rfl) ?_
          refine ⟨?_, fun W hW => ?_, ?_⟩
          rotate_left
          · skip
            go_simp
            with_reducible rfl
          refine hK _ ?_
          clear hK K
          (try simp only [Act.put, List.setIfInBounds_toArray, List.set_cons_zero, List.set_cons_succ])
          refine wpQuiet_step_h hlq ?_
          clear hlq lq
          intro K lq hlq hK
          refine wanted_go (by rfl) ?_
          refine ⟨?_, fun W hW => ?_, ?_⟩
          rotate_left
          · skip
            go_simp
            with_reducible rfl
          refine hK _ ?_
          clear hK K
          (try simp only [Act.put, List.setIfInBounds_toArray, List.set_cons_zero, List.set_cons_succ])
          refine wpQuiet_step_h hlq ?_
          clear hlq lq
          intro K lq hlq hK
          refine wanted_go (by rfl) ?_
          refine ⟨?_, fun W hW => ?_, ?_⟩
          rotate_left
          · skip
            go_simp
            with_reducible rfl
          refine hK _ ?_
          clear hK K
          (try simp only [Act.put, List.setIfInBounds_toArray, List.set_cons_zero, List.set_cons_succ])
          refine wpQuiet_step_h hlq ?_
          clear hlq lq
          intro K lq hlq hK
          refine wanted_go (by rfl) ?_
          refine ⟨?_, fun W hW => ?_, ?_⟩
          rotate_left
          · skip
            go_simp
            with_reducible rfl
          refine hK _ ?_
          clear hK K
          (try simp only [Act.put, List.setIfInBounds_toArray, List.set_cons_zero, List.set_cons_succ])
          refine wpQuiet_step_h hlq ?_
          clear hlq lq
          intro K lq hlq hK
          refine wanted_go (by rfl) ?_
          refine ⟨?_, fun W hW => ?_, ?_⟩
          rotate_left
          · skip
            go_simp
            with_reducible rfl
          refine hK _ ?_
          clear hK K
          (try simp only [Act.put, List.setIfInBounds_toArray, List.set_cons_zero, List.set_cons_succ])
          refine wpQuiet_step_h hlq ?_
          clear hlq lq
          intro K lq hlq hK
          refine wanted_go (by rfl) ?_
          refine ⟨.int .i64 y.d.n, fun W hW => ?_, ?_⟩
          · skip
            exact quiet_load 3 _ rfl rfl (ld_dn (hr.out.later hW.bel) Hf.out hy.out)
          refine hK _ ?_
          clear hK K
          (try simp only [Act.put, List.setIfInBounds_toArray, List.set_cons_zero, List.set_cons_succ])
          refine wpQuiet_step_h hlq ?_
          clear hlq lq
          intro K lq hlq hK
          refine wanted_go (by rfl) ?_
          refine ⟨?_, fun W hW => ?_, ?_⟩
          rotate_left
          · skip
            go_simp
            with_reducible rfl
          refine hK _ ?_
          clear hK K
          (try simp only [Act.put, List.setIfInBounds_toArray, List.set_cons_zero, List.set_cons_succ])
          refine wpQuiet_step_h hlq ?_
          clear hlq lq
          intro K lq hlq hK
          refine wanted_go (by rfl) ?_
          refine ⟨?_, fun W hW => ?_, ?_⟩
          rotate_left
          · skip
            go_simp
            with_reducible rfl
          refine hK _ ?_
          clear hK K
          (try simp only [Act.put, List.setIfInBounds_toArray, List.set_cons_zero, List.set_cons_succ])
          refine wpQuiet_step_h hlq ?_
          clear hlq lq
          intro K lq hlq hK
          refine wanted_go (by rfl) ?_
          refine ⟨?_, fun W hW => ?_, ?_⟩
          rotate_left
          · skip
            go_simp
            with_reducible rfl
          refine hK _ ?_
          clear hK K
          (try simp only [Act.put, List.setIfInBounds_toArray, List.set_cons_zero, List.set_cons_succ])
          refine wpQuiet_step_h hlq ?_
          clear hlq lq
          intro K lq hlq hK
          refine wanted_go (by rfl) ?_
          refine ⟨?_, fun W hW => ?_, ?_⟩
          rotate_left
          · skip
            go_simp
            with_reducible rfl
          refine hK _ ?_
          clear hK K
          (try simp only [Act.put, List.setIfInBounds_toArray, List.set_cons_zero, List.set_cons_succ])
          refine wpQuiet_step_h hlq ?_
          clear hlq lq
          intro K lq hlq hK
          refine wanted_go (by rfl) ?_
          refine ⟨?_, fun W hW => ?_, ?_⟩
          rotate_left
          · skip
            go_simp
            with_reducible rfl
          refine hK _ ?_
          clear hK K
          (try simp only [Act.put, List.setIfInBounds_toArray, List.set_cons_zero, List.set_cons_succ])
          refine wpQuiet_step_h hlq ?_
          clear hlq lq
          intro K lq hlq hK
          refine wanted_go (by rfl) ?_
          refine ⟨?_, fun W hW => ?_, ?_⟩
          rotate_left
          · skip
            go_simp
            with_reducible rfl
          refine hK _ ?_
          clear hK K
          (try simp only [Act.put, List.setIfInBounds_toArray, List.set_cons_zero, List.set_cons_succ])
          refine wpQuiet_step_h hlq ?_
          clear hlq lq
          intro K lq hlq hK
          refine wanted_go (by rfl) ?_
          refine ⟨?_, fun W hW => ?_, ?_⟩
          rotate_left
          · skip
            go_simp
            with_reducible rfl
          refine hK _ ?_
          clear hK K
          (try simp only [Act.put, List.setIfInBounds_toArray, List.set_cons_zero, List.set_cons_succ])
          refine wpQuiet_step_h hlq ?_
          clear hlq lq
          intro K lq hlq hK
          refine wanted_go (by rfl) ?_
          refine ⟨?_, fun W hW => ?_, ?_⟩
          rotate_left
          · skip
            go_simp
            with_reducible rfl
          refine hK _ ?_
          clear hK K
          (try simp only [Act.put, List.setIfInBounds_toArray, List.set_cons_zero, List.set_cons_succ])
          refine wpQuiet_step_h hlq ?_
          clear hlq lq
          intro K lq hlq hK
          refine wanted_go (by rfl) ?_
          refine ⟨.int .i64 p.d.n, fun W hW => ?_, ?_⟩
          · skip
            exact quiet_load 3 _ rfl rfl (ld_dn (hr.out.later hW.bel) Hf.out hget.out)
          refine hK _ ?_
          clear hK K
          (try simp only [Act.put, List.setIfInBounds_toArray, List.set_cons_zero, List.set_cons_succ])
          refine wpQuiet_step_h hlq ?_
          clear hlq lq
          intro K lq hlq hK
          refine wanted_go (by rfl) ?_
          refine ⟨?_, fun W hW => ?_, ?_⟩
          rotate_left
          · skip
            go_simp
            with_reducible rfl
          refine hK _ ?_
          clear hK K
          (try simp only [Act.put, List.setIfInBounds_toArray, List.set_cons_zero, List.set_cons_succ])
          refine wpQuiet_step_h hlq ?_
          clear hlq lq
          intro K lq hlq hK
          refine wanted_go (by rfl) ?_
          refine ⟨?_, fun W hW => ?_, ?_⟩
          rotate_left
          · skip
            go_simp
            with_reducible rfl
          refine hK _ ?_
          clear hK K
          (try simp only [Act.put, List.setIfInBounds_toArray, List.set_cons_zero, List.set_cons_succ])
          refine wpQuiet_step_h hlq ?_
          clear hlq lq
          intro K lq hlq hK
          refine wanted_go (by rfl) ?_
          refine ⟨?_, fun W hW => ?_, ?_⟩
          rotate_left
          · skip
            go_simp
            with_reducible rfl
          refine hK _ ?_
          clear hK K
          (try simp only [Act.put, List.setIfInBounds_toArray, List.set_cons_zero, List.set_cons_succ])
          refine wpQuiet_step_h hlq ?_
          clear hlq lq
          intro K lq hlq hK
          refine wanted_go (by rfl) ?_
          refine ⟨?_, fun W hW => ?_, ?_⟩
          rotate_left
          · skip
            go_simp
            with_reducible rfl
          refine hK _ ?_
          clear hK K
          (try simp only [Act.put, List.setIfInBounds_toArray, List.set_cons_zero, List.set_cons_succ])
          refine wpQuiet_step_h hlq ?_
          clear hlq lq
          intro K lq hlq hK
          refine wanted_go (by rfl) ?_
          refine ⟨?_, fun W hW => ?_, ?_⟩
          rotate_left
          · skip
            go_simp
            with_reducible rfl
          refine hK _ ?_
          clear hK K
          (try simp only [Act.put, List.setIfInBounds_toArray, List.set_cons_zero, List.set_cons_succ])
          refine wpQuiet_step_h hlq ?_
          clear hlq lq
          intro K lq hlq hK
          refine wanted_go (by rfl) ?_
          refine ⟨.int .i64 y.d.n, fun W hW => ?_, ?_⟩
          · skip
            exact quiet_load 3 _ rfl rfl (ld_dn (hr.out.later hW.bel) Hf.out hy.out)
          refine hK _ ?_
          clear hK K
          (try simp only [Act.put, List.setIfInBounds_toArray, List.set_cons_zero, List.set_cons_succ])
          refine wpQuiet_step_h hlq ?_
          clear hlq lq
          intro K lq hlq hK
          refine wanted_go (by rfl) ?_
          refine ⟨?_, fun W hW => ?_, ?_⟩
          rotate_left
          · skip
            go_simp
            with_reducible rfl
          refine hK _ ?_
          clear hK K
          (try simp only [Act.put, List.setIfInBounds_toArray, List.set_cons_zero, List.set_cons_succ])
          refine wpQuiet_step_h hlq ?_
          clear hlq lq
          intro K lq hlq hK
          refine wanted_go (by rfl) ?_
          refine ⟨?_, fun W hW => ?_, ?_⟩
          rotate_left
          · skip
            go_simp
            with_reducible rfl
          refine hK _ ?_
          clear hK K
          (try simp only [Act.put, List.setIfInBounds_toArray, List.set_cons_zero, List.set_cons_succ])
          refine wpQuiet_step_h hlq ?_
          clear hlq lq
          intro K lq hlq hK
          go_simp
          refine hK _ ?_
          clear hK K
          refine wpQuiet_step_h hlq ?_
          clear hlq lq
          intro K lq hlq hK
          go_simp
          refine hK _ ?_
          clear hK K
          refine wpQuiet_step_h hlq ?_
          clear hlq lq
          intro K lq hlq hK
          go_simp
          refine hK _ ?_
          clear hK K
          refine wpQuiet_step_h hlq ?_
          clear hlq lq
          intro K lq hlq hK
          go_simp
          refine hK _ ?_
          clear hK K
          refine wpQuiet_step_h hlq ?_
          clear hlq lq
          intro K lq hlq hK
          go_simp
          refine hK _ ?_
          clear hK K
          refine wpQuiet_step_h hlq ?_
          clear hlq lq
          intro K lq hlq hK
          go_simp
          refine hK _ ?_
          clear hK K
          refine wpQuiet_step_h hlq ?_
          clear hlq lq
          intro K lq hlq hK
          go_simp
          refine hK _ ?_
          clear hK K
          refine wpQuiet_step_h hlq ?_
          clear hlq lq
          intro K lq hlq hK
          go_simp
          refine hK _ ?_
          clear hK K
          refine wpQuiet_step_h hlq ?_
          clear hlq lq
          intro K lq hlq hK
          go_simp
          refine hK _ ?_
          clear hK K
          refine wpQuiet_step_h hlq ?_
          clear hlq lq
          intro K lq hlq hK
          go_simp
          refine hK _ ?_
          clear hK K
          refine wpQuiet_step_h hlq ?_
          clear hlq lq
          intro K lq hlq hK
          go_simp
          refine hK _ ?_
          clear hK K
          refine wpQuiet_step_h hlq ?_
          clear hlq lq
          intro K lq hlq hK
          go_simp
          refine hK _ ?_
          clear hK K
          refine wpQuiet_step_h hlq ?_
          clear hlq lq
          intro K lq hlq hK
          go_simp
          refine hK _ ?_
          clear hK K
          refine wpQuiet_step_h hlq ?_
          clear hlq lq
          intro K lq hlq hK
          go_simp
          refine hK _ ?_
          clear hK K
          refine wpQuiet_step_h hlq ?_
          clear hlq lq
          intro K lq hlq hK
          go_simp
          refine hK _ ?_
          clear hK K
          refine wpQuiet_step_h hlq ?_
          clear hlq lq
          intro K lq hlq hK
          go_simp
          refine hK _ ?_
          clear hK K
          refine wpQuiet_step_h hlq ?_
          clear hlq lq
          intro K lq hlq hK
          go_simp
          refine hK _ ?_
          clear hK K
          refine wpQuiet_step_h hlq ?_
          clear hlq lq
          intro K lq hlq hK
          go_simp
          refine hK _ ?_
          clear hK K
          refine wpQuiet_step_h hlq ?_
          clear hlq lq
          intro K lq hlq hK
          go_simp
          refine hK _ ?_
          clear hK K
          refine wpQuiet_step_h hlq ?_
          clear hlq lq
          intro K lq hlq hK
          go_simp
          refine hK _ ?_
          clear hK K
          refine wpQuiet_step_h hlq ?_
          clear hlq lq
          intro K lq hlq hK
          go_simp
          refine hK _ ?_
          clear hK K
          refine wpQuiet_step_h hlq ?_
          clear hlq lq
          intro K lq hlq hK
          go_simp
          refine hK _ ?_
          clear hK K
          refine wpQuiet_step_h hlq ?_
          clear hlq lq
          intro K lq hlq hK
          go_simp
          refine hK _ ?_
          clear hK K
          refine wpQuiet_step_h hlq ?_
          clear hlq lq
          intro K lq hlq hK
          go_simp
          refine hK _ ?_
          clear hK K
          refine wpQuiet_step_h hlq ?_
          clear hlq lq
          intro K lq hlq hK
          go_simp
          refine hK _ ?_
          clear hK K
          refine wpQuiet_step_h hlq ?_
          clear hlq lq
          intro K lq hlq hK
          go_simp
          refine hK _ ?_
          clear hK K
          refine wpQuiet_step_h hlq ?_
          clear hlq lq
          intro K lq hlq hK
          go_simp
          refine hK _ ?_
          clear hK K
          refine wpQuiet_step_h hlq ?_
          clear hlq lq
          intro K lq hlq hK
          go_simp
          refine hK _ ?_
          clear hK K
          refine wpQuiet_step_h hlq ?_
          clear hlq lq
          intro K lq hlq hK
          go_simp
          refine hK _ ?_
          clear hK K
          refine wpQuiet_step_h hlq ?_
          clear hlq lq
          intro K lq hlq hK
          go_simp
          refine hK _ ?_
          clear hK K
          refine wpQuiet_step_h hlq ?_
          clear hlq lq
          intro K lq hlq hK
          go_simp
          refine hK _ ?_
          clear hK K
          refine wpQuiet_step_h hlq ?_
          clear hlq lq
          intro K lq hlq hK
          go_simp
          refine hK _ ?_
          clear hK K
          refine wpQuiet_step_h hlq ?_
          clear hlq lq
          intro K lq hlq hK
          go_simp
          refine hK _ ?_
          clear hK K
          refine wpQuiet_step_h hlq ?_
          clear hlq lq
          intro K lq hlq hK
          refine wanted_go (by rfl) ?_
          refine ⟨?_, fun W hW => ?_, ?_⟩
          rotate_left
          · skip
            go_simp
            with_reducible rfl
          refine hK _ ?_
          clear hK K
          (try simp only [Act.put, List.setIfInBounds_toArray, List.set_cons_zero, List.set_cons_succ])
          refine wpQuiet_step_h hlq ?_
          clear hlq lq
          intro K lq hlq hK
          refine wanted_go (by rfl) ?_
          refine ⟨?_, fun W hW => ?_, ?_⟩
          rotate_left
          · skip
            go_simp
            with_reducible rfl
          refine hK _ ?_
          clear hK K
          (try simp only [Act.put, List.setIfInBounds_toArray, List.set_cons_zero, List.set_cons_succ])
          refine wpQuiet_nil_h hlq ?_
          clear hlq lq hV2
          intro V3 hV4
          go_wp2_with fail
          refine ⟨⟨i + 1, by congr 1, by omega, hV4⟩, by simp [intOf]; omega⟩
        · have f1 : decide (y.d.n < p.d.n) = false := decide_eq_false (by omega)
          have f2 : (p.d.n == y.d.n) = true := by rw [beq_iff_eq]; exact h1
          have f3 : decide (y.s.n < p.s.n) = false := decide_eq_false (by omega)
          have f4 : (p.s.n == y.s.n) = false := by rw [beq_eq_false_iff_ne]; omega
          replace h1 := Lib.hid h1
          replace h2 := Lib.hid h2
          go_wp2_with fail
          refine wp_region_C (C := Bz w [(w.heap.size + 1, oA dst), (w.heap.size, oA src)]) (by kernel_rfl) (by kernel_rfl) (bx.drew) ?_
          refine wpQuiet_hide ?_
          intro lq hlq
          refine wpQuiet_step_h hlq ?_
          clear hlq lq
          intro K lq hlq hK
          refine wanted_go (by rfl) ?_
          refine ⟨?_, fun W hW => ?_, ?_⟩
          rotate_left
          · skip
            go_simp
            with_reducible rfl
          refine hK _ ?_
          clear hK K
          (try simp only [Act.put, List.setIfInBounds_toArray, List.set_cons_zero, List.set_cons_succ])
          refine wpQuiet_step_h hlq ?_
          clear hlq lq
          intro K lq hlq hK
          refine wanted_go (by rfl) ?_
          refine ⟨?_, fun W hW => ?_, ?_⟩
          rotate_left
          · skip
            go_simp
            with_reducible rfl
          refine hK _ ?_
          clear hK K
          (try simp only [Act.put, List.setIfInBounds_toArray, List.set_cons_zero, List.set_cons_succ])
          refine wpQuiet_step_h hlq ?_
          clear hlq lq
          intro K lq hlq hK
          refine wanted_go (by rfl) ?_
          refine ⟨?_, fun W hW => ?_, ?_⟩
          rotate_left
          · skip
            go_simp
            with_reducible rfl
          refine hK _ ?_
          clear hK K
          (try simp only [Act.put, List.setIfInBounds_toArray, List.set_cons_zero, List.set_cons_succ])
          refine wpQuiet_step_h hlq ?_
          clear hlq lq
          intro K lq hlq hK
          refine wanted_go (by rfl) ?_
          refine ⟨vPP p, fun W hW => ?_, ?_⟩
          · skip
            exact quiet_load 57 _ rfl rfl (ld_el (hr.out.later hW.bel) Hf.out hget.out)
          refine hK _ ?_
          clear hK K
          (try simp only [Act.put, List.setIfInBounds_toArray, List.set_cons_zero, List.set_cons_succ])
          refine wpQuiet_step_h hlq ?_
          clear hlq lq
          intro K lq hlq hK
          refine wanted_go (by rfl) ?_
          refine ⟨vA src, fun W hW => ?_, ?_⟩
          · skip
            exact quiet_load 42 _ rfl rfl (ldA (hW.all.get 1 (x := (w.heap.size, oA src)) rfl) Hs.out)
          refine hK _ ?_
          clear hK K
          (try simp only [Act.put, List.setIfInBounds_toArray, List.set_cons_zero, List.set_cons_succ])
          refine wpQuiet_step_h hlq ?_
          clear hlq lq
          intro K lq hlq hK
          refine wanted_go (by rfl) ?_
          refine ⟨vA dst, fun W hW => ?_, ?_⟩
          · skip
            exact quiet_load 42 _ rfl rfl (ldA (hW.all.get 0 (x := (w.heap.size + 1, oA dst)) rfl) Hd.out)
          refine hK _ ?_
          clear hK K
          (try simp only [Act.put, List.setIfInBounds_toArray, List.set_cons_zero, List.set_cons_succ])
          refine wpQuiet_step_h hlq ?_
          clear hlq lq
          intro K lq hlq hK
          refine wanted_go (by rfl) ?_
          refine ⟨.bool true, fun W hW => ?_, ?_⟩
          · go_simp
            exact (mat_call hp.out Hs.out Hd.out hm.out).mono fun e W2 hc2 => ⟨hc2.1, hW.go hc2.2⟩
          refine hK _ ?_
          clear hK K
          (try simp only [Act.put, List.setIfInBounds_toArray, List.set_cons_zero, List.set_cons_succ])
          refine wpQuiet_step_h hlq ?_
          clear hlq lq
          intro K lq hlq hK
          refine wanted_go (by rfl) ?_
          refine ⟨?_, fun W hW => ?_, ?_⟩
          rotate_left
          · skip
            go_simp
            with_reducible rfl
          refine hK _ ?_
          clear hK K
          (try simp only [Act.put, List.setIfInBounds_toArray, List.set_cons_zero, List.set_cons_succ])
          refine wpQuiet_nil_h hlq ?_
          clear hlq lq bx
          intro V1 hV2
          go_wp2_with fail
          refine wp_region_C (C := Bz w [(w.heap.size + 1, oA dst), (w.heap.size, oA src)]) (by kernel_rfl) (by kernel_rfl) (hV2.drew) ?_
          refine wpQuiet_hide ?_
          intro lq hlq
          refine wpQuiet_step_h hlq ?_
          clear hlq lq
          intro K lq hlq hK
          refine wanted_go (by rfl) ?_
          refine ⟨?_, fun W hW => ?_, ?_⟩
          rotate_left
          · skip
            go_simp
            with_reducible rfl
          refine hK _ ?_
          clear hK K
          (try simp only [Act.put, List.setIfInBounds_toArray, List.set_cons_zero, List.set_cons_succ])
          refine wpQuiet_step_h hlq ?_
          clear hlq lq
          intro K lq hlq hK
          refine wanted_go (by rfl) ?_
          refine ⟨?_, fun W hW => ?_, ?_⟩
          rotate_left
          · skip
            go_simp
            with_reducible rfl
          refine hK _ ?_
          clear hK K
          (try simp only [Act.put, List.setIfInBounds_toArray, List.set_cons_zero, List.set_cons_succ])
          refine wpQuiet_step_h hlq ?_
          clear hlq lq
          intro K lq hlq hK
          refine wanted_go (by rfl) ?_
          refine ⟨?_, fun W hW => ?_, ?_⟩
          rotate_left
          · skip
            go_simp
            with_reducible rfl
          refine hK _ ?_
          clear hK K
          (try simp only [Act.put, List.setIfInBounds_toArray, List.set_cons_zero, List.set_cons_succ])
          refine wpQuiet_step_h hlq ?_
          clear hlq lq
          intro K lq hlq hK
          refine wanted_go (by rfl) ?_
          refine ⟨?_, fun W hW => ?_, ?_⟩
          rotate_left
          · skip
            go_simp
            with_reducible rfl
          refine hK _ ?_
          clear hK K
          (try simp only [Act.put, List.setIfInBounds_toArray, List.set_cons_zero, List.set_cons_succ])
          refine wpQuiet_step_h hlq ?_
          clear hlq lq
          intro K lq hlq hK
          refine wanted_go (by rfl) ?_
          refine ⟨?_, fun W hW => ?_, ?_⟩
          rotate_left
          · skip
            go_simp
            with_reducible rfl
          refine hK _ ?_
          clear hK K
          (try simp only [Act.put, List.setIfInBounds_toArray, List.set_cons_zero, List.set_cons_succ])
          refine wpQuiet_step_h hlq ?_
          clear hlq lq
          intro K lq hlq hK
          refine wanted_go (by rfl) ?_
          refine ⟨?_, fun W hW => ?_, ?_⟩
          rotate_left
          · skip
            go_simp
            with_reducible rfl
          refine hK _ ?_
          clear hK K
          (try simp only [Act.put, List.setIfInBounds_toArray, List.set_cons_zero, List.set_cons_succ])
          refine wpQuiet_step_h hlq ?_
          clear hlq lq
          intro K lq hlq hK
          refine wanted_go (by rfl) ?_
          refine ⟨?_, fun W hW => ?_, ?_⟩
          rotate_left
          · skip
            go_simp
            with_reducible rfl
          refine hK _ ?_
          clear hK K
          (try simp only [Act.put, List.setIfInBounds_toArray, List.set_cons_zero, List.set_cons_succ])
          refine wpQuiet_step_h hlq ?_
          clear hlq lq
          intro K lq hlq hK
          refine wanted_go (by rfl) ?_
          refine ⟨?_, fun W hW => ?_, ?_⟩
          rotate_left
          · skip
            go_simp
            with_reducible rfl
          refine hK _ ?_
          clear hK K
          (try simp only [Act.put, List.setIfInBounds_toArray, List.set_cons_zero, List.set_cons_succ])
          refine wpQuiet_step_h hlq ?_
          clear hlq lq
          intro K lq hlq hK
          refine wanted_go (by rfl) ?_
          refine ⟨.int .i64 p.d.n, fun W hW => ?_, ?_⟩
          · skip
            exact quiet_load 3 _ rfl rfl (ld_dn (hr.out.later hW.bel) Hf.out hget.out)
          refine hK _ ?_
          clear hK K
          (try simp only [Act.put, List.setIfInBounds_toArray, List.set_cons_zero, List.set_cons_succ])
          refine wpQuiet_step_h hlq ?_
          clear hlq lq
          intro K lq hlq hK
          refine wanted_go (by rfl) ?_
          refine ⟨?_, fun W hW => ?_, ?_⟩
          rotate_left
          · skip
            go_simp
            with_reducible rfl
          refine hK _ ?_
          clear hK K
          (try simp only [Act.put, List.setIfInBounds_toArray, List.set_cons_zero, List.set_cons_succ])
          refine wpQuiet_step_h hlq ?_
          clear hlq lq
          intro K lq hlq hK
          refine wanted_go (by rfl) ?_
          refine ⟨?_, fun W hW => ?_, ?_⟩
          rotate_left
          · skip
            go_simp
            with_reducible rfl
          refine hK _ ?_
          clear hK K
          (try simp only [Act.put, List.setIfInBounds_toArray, List.set_cons_zero, List.set_cons_succ])
          refine wpQuiet_step_h hlq ?_
          clear hlq lq
          intro K lq hlq hK
          refine wanted_go (by rfl) ?_
          refine ⟨?_, fun W hW => ?_, ?_⟩
          rotate_left
          · skip
            go_simp
            with_reducible rfl
          refine hK _ ?_
          clear hK K
          (try simp only [Act.put, List.setIfInBounds_toArray, List.set_cons_zero, List.set_cons_succ])
          refine wpQuiet_step_h hlq ?_
          clear hlq lq
          intro K lq hlq hK
          refine wanted_go (by rfl) ?_
          refine ⟨?_, fun W hW => ?_, ?_⟩
          rotate_left
          · skip
            go_simp
            with_reducible rfl
          refine hK _ ?_
          clear hK K
          (try simp only [Act.put, List.setIfInBounds_toArray, List.set_cons_zero, List.set_cons_succ])
          refine wpQuiet_step_h hlq ?_
          clear hlq lq
          intro K lq hlq hK
          refine wanted_go (by rfl) ?_
          refine ⟨?_, fun W hW => ?_, ?_⟩
          rotate_left
          · skip
            go_simp
            with_reducible rfl
          refine hK _ ?_
          clear hK K
          (try simp only [Act.put, List.setIfInBounds_toArray, List.set_cons_zero, List.set_cons_succ])
          refine wpQuiet_step_h hlq ?_
          clear hlq lq
          intro K lq hlq hK
          refine wanted_go (by rfl) ?_
          refine ⟨.int .i64 y.d.n, fun W hW => ?_, ?_⟩
          · skip
            exact quiet_load 3 _ rfl rfl (ld_dn (hr.out.later hW.bel) Hf.out hy.out)
          refine hK _ ?_
          clear hK K
          (try simp only [Act.put, List.setIfInBounds_toArray, List.set_cons_zero, List.set_cons_succ])
          refine wpQuiet_step_h hlq ?_
          clear hlq lq
          intro K lq hlq hK
          refine wanted_go (by rfl) ?_
          refine ⟨?_, fun W hW => ?_, ?_⟩
          rotate_left
          · skip
            go_simp
            with_reducible rfl
          refine hK _ ?_
          clear hK K
          (try simp only [Act.put, List.setIfInBounds_toArray, List.set_cons_zero, List.set_cons_succ])
          refine wpQuiet_step_h hlq ?_
          clear hlq lq
          intro K lq hlq hK
          refine wanted_go (by rfl) ?_
          refine ⟨?_, fun W hW => ?_, ?_⟩
          rotate_left
          · skip
            go_simp
            with_reducible rfl
          refine hK _ ?_
          clear hK K
          (try simp only [Act.put, List.setIfInBounds_toArray, List.set_cons_zero, List.set_cons_succ])
          refine wpQuiet_step_h hlq ?_
          clear hlq lq
          intro K lq hlq hK
          refine wanted_go (by rfl) ?_
          refine ⟨?_, fun W hW => ?_, ?_⟩
          rotate_left
          · skip
            go_simp
            with_reducible rfl
          refine hK _ ?_
          clear hK K
          (try simp only [Act.put, List.setIfInBounds_toArray, List.set_cons_zero, List.set_cons_succ])
          refine wpQuiet_step_h hlq ?_
          clear hlq lq
          intro K lq hlq hK
          refine wanted_go (by rfl) ?_
          refine ⟨?_, fun W hW => ?_, ?_⟩
          rotate_left
          · skip
            go_simp
            with_reducible rfl
          refine hK _ ?_
          clear hK K
          (try simp only [Act.put, List.setIfInBounds_toArray, List.set_cons_zero, List.set_cons_succ])
          refine wpQuiet_step_h hlq ?_
          clear hlq lq
          intro K lq hlq hK
          refine wanted_go (by rfl) ?_
          refine ⟨?_, fun W hW => ?_, ?_⟩
          rotate_left
          · skip
            go_simp
            with_reducible rfl
          refine hK _ ?_
          clear hK K
          (try simp only [Act.put, List.setIfInBounds_toArray, List.set_cons_zero, List.set_cons_succ])
          refine wpQuiet_step_h hlq ?_
          clear hlq lq
          intro K lq hlq hK
          refine wanted_go (by rfl) ?_
          refine ⟨?_, fun W hW => ?_, ?_⟩
          rotate_left
          · skip
            go_simp
            with_reducible rfl
          refine hK _ ?_
          clear hK K
          (try simp only [Act.put, List.setIfInBounds_toArray, List.set_cons_zero, List.set_cons_succ])
          refine wpQuiet_step_h hlq ?_
          clear hlq lq
          intro K lq hlq hK
          refine wanted_go (by rfl) ?_
          refine ⟨?_, fun W hW => ?_, ?_⟩
          rotate_left
          · skip
            go_simp
            with_reducible rfl
          refine hK _ ?_
          clear hK K
          (try simp only [Act.put, List.setIfInBounds_toArray, List.set_cons_zero, List.set_cons_succ])
          refine wpQuiet_step_h hlq ?_
          clear hlq lq
          intro K lq hlq hK
          refine wanted_go (by rfl) ?_
          refine ⟨?_, fun W hW => ?_, ?_⟩
          rotate_left
          · skip
            go_simp
            with_reducible rfl
          refine hK _ ?_
          clear hK K
          (try simp only [Act.put, List.setIfInBounds_toArray, List.set_cons_zero, List.set_cons_succ])
          refine wpQuiet_step_h hlq ?_
          clear hlq lq
          intro K lq hlq hK
          refine wanted_go (by rfl) ?_
          refine ⟨.int .i64 p.d.n, fun W hW => ?_, ?_⟩
          · skip
            exact quiet_load 3 _ rfl rfl (ld_dn (hr.out.later hW.bel) Hf.out hget.out)
          refine hK _ ?_
          clear hK K
          (try simp only [Act.put, List.setIfInBounds_toArray, List.set_cons_zero, List.set_cons_succ])
          refine wpQuiet_step_h hlq ?_
          clear hlq lq
          intro K lq hlq hK
          refine wanted_go (by rfl) ?_
          refine ⟨?_, fun W hW => ?_, ?_⟩
          rotate_left
          · skip
            go_simp
            with_reducible rfl
          refine hK _ ?_
          clear hK K
          (try simp only [Act.put, List.setIfInBounds_toArray, List.set_cons_zero, List.set_cons_succ])
          refine wpQuiet_step_h hlq ?_
          clear hlq lq
          intro K lq hlq hK
          refine wanted_go (by rfl) ?_
          refine ⟨?_, fun W hW => ?_, ?_⟩
          rotate_left
          · skip
            go_simp
            with_reducible rfl
          refine hK _ ?_
          clear hK K
          (try simp only [Act.put, List.setIfInBounds_toArray, List.set_cons_zero, List.set_cons_succ])
          refine wpQuiet_step_h hlq ?_
          clear hlq lq
          intro K lq hlq hK
          refine wanted_go (by rfl) ?_
          refine ⟨?_, fun W hW => ?_, ?_⟩
          rotate_left
          · skip
            go_simp
            with_reducible rfl
          refine hK _ ?_
          clear hK K
          (try simp only [Act.put, List.setIfInBounds_toArray, List.set_cons_zero, List.set_cons_succ])
          refine wpQuiet_step_h hlq ?_
          clear hlq lq
          intro K lq hlq hK
          refine wanted_go (by rfl) ?_
          refine ⟨?_, fun W hW => ?_, ?_⟩
          rotate_left
          · skip
            go_simp
            with_reducible rfl
          refine hK _ ?_
          clear hK K
          (try simp only [Act.put, List.setIfInBounds_toArray, List.set_cons_zero, List.set_cons_succ])
          refine wpQuiet_step_h hlq ?_
          clear hlq lq
          intro K lq hlq hK
          refine wanted_go (by rfl) ?_
          refine ⟨?_, fun W hW => ?_, ?_⟩
          rotate_left
          · skip
            go_simp
            with_reducible rfl
          refine hK _ ?_
          clear hK K
          (try simp only [Act.put, List.setIfInBounds_toArray, List.set_cons_zero, List.set_cons_succ])
          refine wpQuiet_step_h hlq ?_
          clear hlq lq
          intro K lq hlq hK
          refine wanted_go (by rfl) ?_
          refine ⟨.int .i64 y.d.n, fun W hW => ?_, ?_⟩
          · skip
            exact quiet_load 3 _ rfl rfl (ld_dn (hr.out.later hW.bel) Hf.out hy.out)
          refine hK _ ?_
          clear hK K
          (try simp only [Act.put, List.setIfInBounds_toArray, List.set_cons_zero, List.set_cons_succ])
          refine wpQuiet_step_h hlq ?_
          clear hlq lq
          intro K lq hlq hK
          refine wanted_go (by rfl) ?_
          refine ⟨?_, fun W hW => ?_, ?_⟩
          rotate_left
          · skip
            go_simp
            with_reducible rfl
          refine hK _ ?_
          clear hK K
          (try simp only [Act.put, List.setIfInBounds_toArray, List.set_cons_zero, List.set_cons_succ])
          refine wpQuiet_step_h hlq ?_
          clear hlq lq
          intro K lq hlq hK
          refine wanted_go (by rfl) ?_
          refine ⟨?_, fun W hW => ?_, ?_⟩
          rotate_left
          · skip
            go_simp
            with_reducible rfl
          refine hK _ ?_
          clear hK K
          (try simp only [Act.put, List.setIfInBounds_toArray, List.set_cons_zero, List.set_cons_succ])
          refine wpQuiet_step_h hlq ?_
          clear hlq lq
          intro K lq hlq hK
          refine wanted_go (by rfl) ?_
          refine ⟨?_, fun W hW => ?_, ?_⟩
          rotate_left
          · skip
            go_simp
            with_reducible rfl
          refine hK _ ?_
          clear hK K
          (try simp only [Act.put, List.setIfInBounds_toArray, List.set_cons_zero, List.set_cons_succ])
          refine wpQuiet_step_h hlq ?_
          clear hlq lq
          intro K lq hlq hK
          refine wanted_go (by rfl) ?_
          refine ⟨?_, fun W hW => ?_, ?_⟩
          rotate_left
          · skip
            go_simp
            with_reducible rfl
          refine hK _ ?_
          clear hK K
          (try simp only [Act.put, List.setIfInBounds_toArray, List.set_cons_zero, List.set_cons_succ])
          refine wpQuiet_step_h hlq ?_
          clear hlq lq
          intro K lq hlq hK
          refine wanted_go (by rfl) ?_
          refine ⟨?_, fun W hW => ?_, ?_⟩
          rotate_left
          · skip
            go_simp
            with_reducible rfl
          refine hK _ ?_
          clear hK K
          (try simp only [Act.put, List.setIfInBounds_toArray, List.set_cons_zero, List.set_cons_succ])
          refine wpQuiet_step_h hlq ?_
          clear hlq lq
          intro K lq hlq hK
          refine wanted_go (by rfl) ?_
          refine ⟨?_, fun W hW => ?_, ?_⟩
          rotate_left
          · skip
            go_simp
            with_reducible rfl
          refine hK _ ?_
          clear hK K
          (try simp only [Act.put, List.setIfInBounds_toArray, List.set_cons_zero, List.set_cons_succ])
          refine wpQuiet_step_h hlq ?_
          clear hlq lq
          intro K lq hlq hK
          refine wanted_go (by rfl) ?_
          refine ⟨?_, fun W hW => ?_, ?_⟩
          rotate_left
          · skip
            go_simp
            with_reducible rfl
          refine hK _ ?_
          clear hK K
          (try simp only [Act.put, List.setIfInBounds_toArray, List.set_cons_zero, List.set_cons_succ])
          refine wpQuiet_step_h hlq ?_
          clear hlq lq
          intro K lq hlq hK
          refine wanted_go (by rfl) ?_
          refine ⟨.int .i64 p.s.n, fun W hW => ?_, ?_⟩
          · skip
            exact quiet_load 3 _ rfl rfl (ld_sn (hr.out.later hW.bel) Hf.out hget.out)
          refine hK _ ?_
          clear hK K
          (try simp only [Act.put, List.setIfInBounds_toArray, List.set_cons_zero, List.set_cons_succ])
          refine wpQuiet_step_h hlq ?_
          clear hlq lq
          intro K lq hlq hK
          refine wanted_go (by rfl) ?_
          refine ⟨?_, fun W hW => ?_, ?_⟩
          rotate_left
          · skip
            go_simp
            with_reducible rfl
          refine hK _ ?_
          clear hK K
          (try simp only [Act.put, List.setIfInBounds_toArray, List.set_cons_zero, List.set_cons_succ])
          refine wpQuiet_step_h hlq ?_
          clear hlq lq
          intro K lq hlq hK
          refine wanted_go (by rfl) ?_
          refine ⟨?_, fun W hW => ?_, ?_⟩
          rotate_left
          · skip
            go_simp
            with_reducible rfl
          refine hK _ ?_
          clear hK K
          (try simp only [Act.put, List.setIfInBounds_toArray, List.set_cons_zero, List.set_cons_succ])
          refine wpQuiet_step_h hlq ?_
          clear hlq lq
          intro K lq hlq hK
          refine wanted_go (by rfl) ?_
          refine ⟨?_, fun W hW => ?_, ?_⟩
          rotate_left
          · skip
            go_simp
            with_reducible rfl
          refine hK _ ?_
          clear hK K
          (try simp only [Act.put, List.setIfInBounds_toArray, List.set_cons_zero, List.set_cons_succ])
          refine wpQuiet_step_h hlq ?_
          clear hlq lq
          intro K lq hlq hK
          refine wanted_go (by rfl) ?_
          refine ⟨?_, fun W hW => ?_, ?_⟩
          rotate_left
          · skip
            go_simp
            with_reducible rfl
          refine hK _ ?_
          clear hK K
          (try simp only [Act.put, List.setIfInBounds_toArray, List.set_cons_zero, List.set_cons_succ])
          refine wpQuiet_step_h hlq ?_
          clear hlq lq
          intro K lq hlq hK
          refine wanted_go (by rfl) ?_
          refine ⟨?_, fun W hW => ?_, ?_⟩
          rotate_left
          · skip
            go_simp
            with_reducible rfl
          refine hK _ ?_
          clear hK K
          (try simp only [Act.put, List.setIfInBounds_toArray, List.set_cons_zero, List.set_cons_succ])
          refine wpQuiet_step_h hlq ?_
          clear hlq lq
          intro K lq hlq hK
          refine wanted_go (by rfl) ?_
          refine ⟨.int .i64 y.s.n, fun W hW => ?_, ?_⟩
          · skip
            exact quiet_load 3 _ rfl rfl (ld_sn (hr.out.later hW.bel) Hf.out hy.out)
          refine hK _ ?_
          clear hK K
          (try simp only [Act.put, List.setIfInBounds_toArray, List.set_cons_zero, List.set_cons_succ])
          refine wpQuiet_step_h hlq ?_
          clear hlq lq
          intro K lq hlq hK
          refine wanted_go (by rfl) ?_
          refine ⟨?_, fun W hW => ?_, ?_⟩
          rotate_left
          · skip
            go_simp
            with_reducible rfl
          refine hK _ ?_
          clear hK K
          (try simp only [Act.put, List.setIfInBounds_toArray, List.set_cons_zero, List.set_cons_succ])
          refine wpQuiet_step_h hlq ?_
          clear hlq lq
          intro K lq hlq hK
          refine wanted_go (by rfl) ?_
          refine ⟨?_, fun W hW => ?_, ?_⟩
          rotate_left
          · skip
            go_simp
            with_reducible rfl
          refine hK _ ?_
          clear hK K
          (try simp only [Act.put, List.setIfInBounds_toArray, List.set_cons_zero, List.set_cons_succ])
          refine wpQuiet_step_h hlq ?_
          clear hlq lq
          intro K lq hlq hK
          refine wanted_go (by rfl) ?_
          refine ⟨?_, fun W hW => ?_, ?_⟩
          rotate_left
          · skip
            go_simp
            with_reducible rfl
          refine hK _ ?_
          clear hK K
          (try simp only [Act.put, List.setIfInBounds_toArray, List.set_cons_zero, List.set_cons_succ])
          refine wpQuiet_step_h hlq ?_
          clear hlq lq
          intro K lq hlq hK
          refine wanted_go (by rfl) ?_
          refine ⟨?_, fun W hW => ?_, ?_⟩
          rotate_left
          · skip
            go_simp
            with_reducible rfl
          refine hK _ ?_
          clear hK K
          (try simp only [Act.put, List.setIfInBounds_toArray, List.set_cons_zero, List.set_cons_succ])
          refine wpQuiet_step_h hlq ?_
          clear hlq lq
          intro K lq hlq hK
          refine wanted_go (by rfl) ?_
          refine ⟨?_, fun W hW => ?_, ?_⟩
          rotate_left
          · skip
            go_simp
            with_reducible rfl
          refine hK _ ?_
          clear hK K
          (try simp only [Act.put, List.setIfInBounds_toArray, List.set_cons_zero, List.set_cons_succ])
          refine wpQuiet_step_h hlq ?_
          clear hlq lq
          intro K lq hlq hK
          refine wanted_go (by rfl) ?_
          refine ⟨?_, fun W hW => ?_, ?_⟩
          rotate_left
          · skip
            go_simp
            with_reducible rfl
          refine hK _ ?_
          clear hK K
          (try simp only [Act.put, List.setIfInBounds_toArray, List.set_cons_zero, List.set_cons_succ])
          refine wpQuiet_step_h hlq ?_
          clear hlq lq
          intro K lq hlq hK
          refine wanted_go (by rfl) ?_
          refine ⟨?_, fun W hW => ?_, ?_⟩
          rotate_left
          · skip
            go_simp
            with_reducible rfl
          refine hK _ ?_
          clear hK K
          (try simp only [Act.put, List.setIfInBounds_toArray, List.set_cons_zero, List.set_cons_succ])
          refine wpQuiet_step_h hlq ?_
          clear hlq lq
          intro K lq hlq hK
          refine wanted_go (by rfl) ?_
          refine ⟨.int .i64 p.s.n, fun W hW => ?_, ?_⟩
          · skip
            exact quiet_load 3 _ rfl rfl (ld_sn (hr.out.later hW.bel) Hf.out hget.out)
          refine hK _ ?_
          clear hK K
          (try simp only [Act.put, List.setIfInBounds_toArray, List.set_cons_zero, List.set_cons_succ])
          refine wpQuiet_step_h hlq ?_
          clear hlq lq
          intro K lq hlq hK
          refine wanted_go (by rfl) ?_
          refine ⟨?_, fun W hW => ?_, ?_⟩
          rotate_left
          · skip
            go_simp
            with_reducible rfl
          refine hK _ ?_
          clear hK K
          (try simp only [Act.put, List.setIfInBounds_toArray, List.set_cons_zero, List.set_cons_succ])
          refine wpQuiet_step_h hlq ?_
          clear hlq lq
          intro K lq hlq hK
          refine wanted_go (by rfl) ?_
          refine ⟨?_, fun W hW => ?_, ?_⟩
          rotate_left
          · skip
            go_simp
            with_reducible rfl
          refine hK _ ?_
          clear hK K
          (try simp only [Act.put, List.setIfInBounds_toArray, List.set_cons_zero, List.set_cons_succ])
          refine wpQuiet_step_h hlq ?_
          clear hlq lq
          intro K lq hlq hK
          refine wanted_go (by rfl) ?_
          refine ⟨?_, fun W hW => ?_, ?_⟩
          rotate_left
          · skip
            go_simp
            with_reducible rfl
          refine hK _ ?_
          clear hK K
          (try simp only [Act.put, List.setIfInBounds_toArray, List.set_cons_zero, List.set_cons_succ])
          refine wpQuiet_step_h hlq ?_
          clear hlq lq
          intro K lq hlq hK
          refine wanted_go (by rfl) ?_
          refine ⟨?_, fun W hW => ?_, ?_⟩
          rotate_left
          · skip
            go_simp
            with_reducible rfl
          refine hK _ ?_
          clear hK K
          (try simp only [Act.put, List.setIfInBounds_toArray, List.set_cons_zero, List.set_cons_succ])
          refine wpQuiet_step_h hlq ?_
          clear hlq lq
          intro K lq hlq hK
          refine wanted_go (by rfl) ?_
          refine ⟨?_, fun W hW => ?_, ?_⟩
          rotate_left
          · skip
            go_simp
            with_reducible rfl
          refine hK _ ?_
          clear hK K
          (try simp only [Act.put, List.setIfInBounds_toArray, List.set_cons_zero, List.set_cons_succ])
          refine wpQuiet_step_h hlq ?_
          clear hlq lq
          intro K lq hlq hK
          refine wanted_go (by rfl) ?_
          refine ⟨.int .i64 y.s.n, fun W hW => ?_, ?_⟩
          · skip
            exact quiet_load 3 _ rfl rfl (ld_sn (hr.out.later hW.bel) Hf.out hy.out)
          refine hK _ ?_
          clear hK K
          (try simp only [Act.put, List.setIfInBounds_toArray, List.set_cons_zero, List.set_cons_succ])
          refine wpQuiet_step_h hlq ?_
          clear hlq lq
          intro K lq hlq hK
          refine wanted_go (by rfl) ?_
          refine ⟨?_, fun W hW => ?_, ?_⟩
          rotate_left
          · skip
            go_simp
            with_reducible rfl
          refine hK _ ?_
          clear hK K
          (try simp only [Act.put, List.setIfInBounds_toArray, List.set_cons_zero, List.set_cons_succ])
          refine wpQuiet_step_h hlq ?_
          clear hlq lq
          intro K lq hlq hK
          refine wanted_go (by rfl) ?_
          refine ⟨?_, fun W hW => ?_, ?_⟩
          rotate_left
          · skip
            go_simp
            with_reducible rfl
          refine hK _ ?_
          clear hK K
          (try simp only [Act.put, List.setIfInBounds_toArray, List.set_cons_zero, List.set_cons_succ])
          refine wpQuiet_step_h hlq ?_
          clear hlq lq
          intro K lq hlq hK
          go_simp
          refine hK _ ?_
          clear hK K
          refine wpQuiet_step_h hlq ?_
          clear hlq lq
          intro K lq hlq hK
          go_simp
          refine hK _ ?_
          clear hK K
          refine wpQuiet_step_h hlq ?_
          clear hlq lq
          intro K lq hlq hK
          go_simp
          refine hK _ ?_
          clear hK K
          refine wpQuiet_step_h hlq ?_
          clear hlq lq
          intro K lq hlq hK
          refine wanted_go (by rfl) ?_
          refine ⟨?_, fun W hW => ?_, ?_⟩
          rotate_left
          · skip
            go_simp
            with_reducible rfl
          refine hK _ ?_
          clear hK K
          (try simp only [Act.put, List.setIfInBounds_toArray, List.set_cons_zero, List.set_cons_succ])
          refine wpQuiet_step_h hlq ?_
          clear hlq lq
          intro K lq hlq hK
          refine wanted_go (by rfl) ?_
          refine ⟨?_, fun W hW => ?_, ?_⟩
          rotate_left
          · skip
            go_simp
            with_reducible rfl
          refine hK _ ?_
          clear hK K
          (try simp only [Act.put, List.setIfInBounds_toArray, List.set_cons_zero, List.set_cons_succ])
          refine wpQuiet_step_h hlq ?_
          clear hlq lq
          intro K lq hlq hK
          refine wanted_go (by rfl) ?_
          refine ⟨?_, fun W hW => ?_, ?_⟩
          rotate_left
          · skip
            go_simp
            with_reducible rfl
          refine hK _ ?_
          clear hK K
          (try simp only [Act.put, List.setIfInBounds_toArray, List.set_cons_zero, List.set_cons_succ])
          refine wpQuiet_step_h hlq ?_
          clear hlq lq
          intro K lq hlq hK
          refine wanted_go (by rfl) ?_
          refine ⟨?_, fun W hW => ?_, ?_⟩
          rotate_left
          · skip
            go_simp
            with_reducible rfl
          refine hK _ ?_
          clear hK K
          (try simp only [Act.put, List.setIfInBounds_toArray, List.set_cons_zero, List.set_cons_succ])
          refine wpQuiet_nil_h hlq ?_
          clear hlq lq hV2
          intro V3 hV4
          go_wp2_with fail
          refine ⟨⟨i + 1, by congr 1, by omega, hV4⟩, by simp [intOf]; omega⟩
        · have f1 : decide (y.d.n < p.d.n) = false := decide_eq_false (by omega)
          have f2 : (p.d.n == y.d.n) = true := by rw [beq_iff_eq]; exact h1
          have f3 : decide (y.s.n < p.s.n) = false := decide_eq_false (by omega)
          have f4 : (p.s.n == y.s.n) = true := by rw [beq_iff_eq]; exact h2
          have f5 : decide ((i : Int) < k) = false := decide_eq_false (by omega)
          have f6 : decide (i < k) = false := decide_eq_false (by omega)
          replace h1 := Lib.hid h1
          replace h2 := Lib.hid h2
          go_wp2_with fail
          refine wp_region_C (C := Bz w [(w.heap.size + 1, oA dst), (w.heap.size, oA src)]) (by kernel_rfl) (by kernel_rfl) (bx.drew) ?_
          refine wpQuiet_hide ?_
          intro lq hlq
          refine wpQuiet_step_h hlq ?_
          clear hlq lq
          intro K lq hlq hK
          refine wanted_go (by rfl) ?_
          refine ⟨?_, fun W hW => ?_, ?_⟩
          rotate_left
          · skip
            go_simp
            with_reducible rfl
          refine hK _ ?_
          clear hK K
          (try simp only [Act.put, List.setIfInBounds_toArray, List.set_cons_zero, List.set_cons_succ])
          refine wpQuiet_step_h hlq ?_
          clear hlq lq
          intro K lq hlq hK
          refine wanted_go (by rfl) ?_
          refine ⟨?_, fun W hW => ?_, ?_⟩
          rotate_left
          · skip
            go_simp
            with_reducible rfl
          refine hK _ ?_
          clear hK K
          (try simp only [Act.put, List.setIfInBounds_toArray, List.set_cons_zero, List.set_cons_succ])
          refine wpQuiet_step_h hlq ?_
          clear hlq lq
          intro K lq hlq hK
          refine wanted_go (by rfl) ?_
          refine ⟨?_, fun W hW => ?_, ?_⟩
          rotate_left
          · skip
            go_simp
            with_reducible rfl
          refine hK _ ?_
          clear hK K
          (try simp only [Act.put, List.setIfInBounds_toArray, List.set_cons_zero, List.set_cons_succ])
          refine wpQuiet_step_h hlq ?_
          clear hlq lq
          intro K lq hlq hK
          refine wanted_go (by rfl) ?_
          refine ⟨vPP p, fun W hW => ?_, ?_⟩
          · skip
            exact quiet_load 57 _ rfl rfl (ld_el (hr.out.later hW.bel) Hf.out hget.out)
          refine hK _ ?_
          clear hK K
          (try simp only [Act.put, List.setIfInBounds_toArray, List.set_cons_zero, List.set_cons_succ])
          refine wpQuiet_step_h hlq ?_
          clear hlq lq
          intro K lq hlq hK
          refine wanted_go (by rfl) ?_
          refine ⟨vA src, fun W hW => ?_, ?_⟩
          · skip
            exact quiet_load 42 _ rfl rfl (ldA (hW.all.get 1 (x := (w.heap.size, oA src)) rfl) Hs.out)
          refine hK _ ?_
          clear hK K
          (try simp only [Act.put, List.setIfInBounds_toArray, List.set_cons_zero, List.set_cons_succ])
          refine wpQuiet_step_h hlq ?_
          clear hlq lq
          intro K lq hlq hK
          refine wanted_go (by rfl) ?_
          refine ⟨vA dst, fun W hW => ?_, ?_⟩
          · skip
            exact quiet_load 42 _ rfl rfl (ldA (hW.all.get 0 (x := (w.heap.size + 1, oA dst)) rfl) Hd.out)
          refine hK _ ?_
          clear hK K
          (try simp only [Act.put, List.setIfInBounds_toArray, List.set_cons_zero, List.set_cons_succ])
          refine wpQuiet_step_h hlq ?_
          clear hlq lq
          intro K lq hlq hK
          refine wanted_go (by rfl) ?_
          refine ⟨.bool true, fun W hW => ?_, ?_⟩
          · go_simp
            exact (mat_call hp.out Hs.out Hd.out hm.out).mono fun e W2 hc2 => ⟨hc2.1, hW.go hc2.2⟩
          refine hK _ ?_
          clear hK K
          (try simp only [Act.put, List.setIfInBounds_toArray, List.set_cons_zero, List.set_cons_succ])
          refine wpQuiet_step_h hlq ?_
          clear hlq lq
          intro K lq hlq hK
          refine wanted_go (by rfl) ?_
          refine ⟨?_, fun W hW => ?_, ?_⟩
          rotate_left
          · skip
            go_simp
            with_reducible rfl
          refine hK _ ?_
          clear hK K
          (try simp only [Act.put, List.setIfInBounds_toArray, List.set_cons_zero, List.set_cons_succ])
          refine wpQuiet_nil_h hlq ?_
          clear hlq lq bx
          intro V1 hV2
          go_wp2_with fail
          refine wp_region_C (C := Bz w [(w.heap.size + 1, oA dst), (w.heap.size, oA src)]) (by kernel_rfl) (by kernel_rfl) (hV2.drew) ?_
          refine wpQuiet_hide ?_
          intro lq hlq
          refine wpQuiet_step_h hlq ?_
          clear hlq lq
          intro K lq hlq hK
          refine wanted_go (by rfl) ?_
          refine ⟨?_, fun W hW => ?_, ?_⟩
          rotate_left
          · skip
            go_simp
            with_reducible rfl
          refine hK _ ?_
          clear hK K
          (try simp only [Act.put, List.setIfInBounds_toArray, List.set_cons_zero, List.set_cons_succ])
          refine wpQuiet_step_h hlq ?_
          clear hlq lq
          intro K lq hlq hK
          refine wanted_go (by rfl) ?_
          refine ⟨?_, fun W hW => ?_, ?_⟩
          rotate_left
          · skip
            go_simp
            with_reducible rfl
          refine hK _ ?_
          clear hK K
          (try simp only [Act.put, List.setIfInBounds_toArray, List.set_cons_zero, List.set_cons_succ])
          refine wpQuiet_step_h hlq ?_
          clear hlq lq
          intro K lq hlq hK
          refine wanted_go (by rfl) ?_
          refine ⟨?_, fun W hW => ?_, ?_⟩
          rotate_left
          · skip
            go_simp
            with_reducible rfl
          refine hK _ ?_
          clear hK K
          (try simp only [Act.put, List.setIfInBounds_toArray, List.set_cons_zero, List.set_cons_succ])
          refine wpQuiet_step_h hlq ?_
          clear hlq lq
          intro K lq hlq hK
          refine wanted_go (by rfl) ?_
          refine ⟨?_, fun W hW => ?_, ?_⟩
          rotate_left
          · skip
            go_simp
            with_reducible rfl
          refine hK _ ?_
          clear hK K
          (try simp only [Act.put, List.setIfInBounds_toArray, List.set_cons_zero, List.set_cons_succ])
          refine wpQuiet_step_h hlq ?_
          clear hlq lq
          intro K lq hlq hK
          refine wanted_go (by rfl) ?_
          refine ⟨?_, fun W hW => ?_, ?_⟩
          rotate_left
          · skip
            go_simp
            with_reducible rfl
          refine hK _ ?_
          clear hK K
          (try simp only [Act.put, List.setIfInBounds_toArray, List.set_cons_zero, List.set_cons_succ])
          refine wpQuiet_step_h hlq ?_
          clear hlq lq
          intro K lq hlq hK
          refine wanted_go (by rfl) ?_
          refine ⟨?_, fun W hW => ?_, ?_⟩
          rotate_left
          · skip
            go_simp
            with_reducible rfl
          refine hK _ ?_
          clear hK K
          (try simp only [Act.put, List.setIfInBounds_toArray, List.set_cons_zero, List.set_cons_succ])
          refine wpQuiet_step_h hlq ?_
          clear hlq lq
          intro K lq hlq hK
          refine wanted_go (by rfl) ?_
          refine ⟨?_, fun W hW => ?_, ?_⟩
          rotate_left
          · skip
            go_simp
            with_reducible rfl
          refine hK _ ?_
          clear hK K
          (try simp only [Act.put, List.setIfInBounds_toArray, List.set_cons_zero, List.set_cons_succ])
          refine wpQuiet_step_h hlq ?_
          clear hlq lq
          intro K lq hlq hK
          refine wanted_go (by rfl) ?_
          refine ⟨?_, fun W hW => ?_, ?_⟩
          rotate_left
          · skip
            go_simp
            with_reducible rfl
          refine hK _ ?_
          clear hK K
          (try simp only [Act.put, List.setIfInBounds_toArray, List.set_cons_zero, List.set_cons_succ])
          refine wpQuiet_step_h hlq ?_
          clear hlq lq
          intro K lq hlq hK
          refine wanted_go (by rfl) ?_
          refine ⟨.int .i64 p.d.n, fun W hW => ?_, ?_⟩
          · skip
            exact quiet_load 3 _ rfl rfl (ld_dn (hr.out.later hW.bel) Hf.out hget.out)
          refine hK _ ?_
          clear hK K
          (try simp only [Act.put, List.setIfInBounds_toArray, List.set_cons_zero, List.set_cons_succ])
          refine wpQuiet_step_h hlq ?_
          clear hlq lq
          intro K lq hlq hK
          refine wanted_go (by rfl) ?_
          refine ⟨?_, fun W hW => ?_, ?_⟩
          rotate_left
          · skip
            go_simp
            with_reducible rfl
          refine hK _ ?_
          clear hK K
          (try simp only [Act.put, List.setIfInBounds_toArray, List.set_cons_zero, List.set_cons_succ])
          refine wpQuiet_step_h hlq ?_
          clear hlq lq
          intro K lq hlq hK
          refine wanted_go (by rfl) ?_
          refine ⟨?_, fun W hW => ?_, ?_⟩
          rotate_left
          · skip
            go_simp
            with_reducible rfl
          refine hK _ ?_
          clear hK K
          (try simp only [Act.put, List.setIfInBounds_toArray, List.set_cons_zero, List.set_cons_succ])
          refine wpQuiet_step_h hlq ?_
          clear hlq lq
          intro K lq hlq hK
          refine wanted_go (by rfl) ?_
          refine ⟨?_, fun W hW => ?_, ?_⟩
          rotate_left
          · skip
            go_simp
            with_reducible rfl
          refine hK _ ?_
          clear hK K
          (try simp only [Act.put, List.setIfInBounds_toArray, List.set_cons_zero, List.set_cons_succ])
          refine wpQuiet_step_h hlq ?_
          clear hlq lq
          intro K lq hlq hK
          refine wanted_go (by rfl) ?_
          refine ⟨?_, fun W hW => ?_, ?_⟩
          rotate_left
          · skip
            go_simp
            with_reducible rfl
          refine hK _ ?_
          clear hK K
          (try simp only [Act.put, List.setIfInBounds_toArray, List.set_cons_zero, List.set_cons_succ])
          refine wpQuiet_step_h hlq ?_
          clear hlq lq
          intro K lq hlq hK
          refine wanted_go (by rfl) ?_
          refine ⟨?_, fun W hW => ?_, ?_⟩
          rotate_left
          · skip
            go_simp
            with_reducible rfl
          refine hK _ ?_
          clear hK K
          (try simp only [Act.put, List.setIfInBounds_toArray, List.set_cons_zero, List.set_cons_succ])
          refine wpQuiet_step_h hlq ?_
          clear hlq lq
          intro K lq hlq hK
          refine wanted_go (by rfl) ?_
          refine ⟨.int .i64 y.d.n, fun W hW => ?_, ?_⟩
          · skip
            exact quiet_load 3 _ rfl rfl (ld_dn (hr.out.later hW.bel) Hf.out hy.out)
          refine hK _ ?_
          clear hK K
          (try simp only [Act.put, List.setIfInBounds_toArray, List.set_cons_zero, List.set_cons_succ])
          refine wpQuiet_step_h hlq ?_
          clear hlq lq
          intro K lq hlq hK
          refine wanted_go (by rfl) ?_
          refine ⟨?_, fun W hW => ?_, ?_⟩
          rotate_left
          · skip
            go_simp
            with_reducible rfl
          refine hK _ ?_
          clear hK K
          (try simp only [Act.put, List.setIfInBounds_toArray, List.set_cons_zero, List.set_cons_succ])
          refine wpQuiet_step_h hlq ?_
          clear hlq lq
          intro K lq hlq hK
          refine wanted_go (by rfl) ?_
          refine ⟨?_, fun W hW => ?_, ?_⟩
          rotate_left
          · skip
            go_simp
            with_reducible rfl
          refine hK _ ?_
          clear hK K
          (try simp only [Act.put, List.setIfInBounds_toArray, List.set_cons_zero, List.set_cons_succ])
          refine wpQuiet_step_h hlq ?_
          clear hlq lq
          intro K lq hlq hK
          refine wanted_go (by rfl) ?_
          refine ⟨?_, fun W hW => ?_, ?_⟩
          rotate_left
          · skip
            go_simp
            with_reducible rfl
          refine hK _ ?_
          clear hK K
          (try simp only [Act.put, List.setIfInBounds_toArray, List.set_cons_zero, List.set_cons_succ])
          refine wpQuiet_step_h hlq ?_
          clear hlq lq
          intro K lq hlq hK
          refine wanted_go (by rfl) ?_
          refine ⟨?_, fun W hW => ?_, ?_⟩
          rotate_left
          · skip
            go_simp
            with_reducible rfl
          refine hK _ ?_
          clear hK K
          (try simp only [Act.put, List.setIfInBounds_toArray, List.set_cons_zero, List.set_cons_succ])
          refine wpQuiet_step_h hlq ?_
          clear hlq lq
          intro K lq hlq hK
          refine wanted_go (by rfl) ?_
          refine ⟨?_, fun W hW => ?_, ?_⟩
          rotate_left
          · skip
            go_simp
            with_reducible rfl
          refine hK _ ?_
          clear hK K
          (try simp only [Act.put, List.setIfInBounds_toArray, List.set_cons_zero, List.set_cons_succ])
          refine wpQuiet_step_h hlq ?_
          clear hlq lq
          intro K lq hlq hK
          refine wanted_go (by rfl) ?_
          refine ⟨?_, fun W hW => ?_, ?_⟩
          rotate_left
          · skip
            go_simp
            with_reducible rfl
          refine hK _ ?_
          clear hK K
          (try simp only [Act.put, List.setIfInBounds_toArray, List.set_cons_zero, List.set_cons_succ])
          refine wpQuiet_step_h hlq ?_
          clear hlq lq
          intro K lq hlq hK
          refine wanted_go (by rfl) ?_
          refine ⟨?_, fun W hW => ?_, ?_⟩
          rotate_left
          · skip
            go_simp
            with_reducible rfl
          refine hK _ ?_
          clear hK K
          (try simp only [Act.put, List.setIfInBounds_toArray, List.set_cons_zero, List.set_cons_succ])
          refine wpQuiet_step_h hlq ?_
          clear hlq lq
          intro K lq hlq hK
          refine wanted_go (by rfl) ?_
          refine ⟨?_, fun W hW => ?_, ?_⟩
          rotate_left
          · skip
            go_simp
            with_reducible rfl
          refine hK _ ?_
          clear hK K
          (try simp only [Act.put, List.setIfInBounds_toArray, List.set_cons_zero, List.set_cons_succ])
          refine wpQuiet_step_h hlq ?_
          clear hlq lq
          intro K lq hlq hK
          refine wanted_go (by rfl) ?_
          refine ⟨.int .i64 p.d.n, fun W hW => ?_, ?_⟩
          · skip
            exact quiet_load 3 _ rfl rfl (ld_dn (hr.out.later hW.bel) Hf.out hget.out)
          refine hK _ ?_
          clear hK K
          (try simp only [Act.put, List.setIfInBounds_toArray, List.set_cons_zero, List.set_cons_succ])
          refine wpQuiet_step_h hlq ?_
          clear hlq lq
          intro K lq hlq hK
          refine wanted_go (by rfl) ?_
          refine ⟨?_, fun W hW => ?_, ?_⟩
          rotate_left
          · skip
            go_simp
            with_reducible rfl
          refine hK _ ?_
          clear hK K
          (try simp only [Act.put, List.setIfInBounds_toArray, List.set_cons_zero, List.set_cons_succ])
          refine wpQuiet_step_h hlq ?_
          clear hlq lq
          intro K lq hlq hK
          refine wanted_go (by rfl) ?_
          refine ⟨?_, fun W hW => ?_, ?_⟩
          rotate_left
          · skip
            go_simp
            with_reducible rfl
          refine hK _ ?_
          clear hK K
          (try simp only [Act.put, List.setIfInBounds_toArray, List.set_cons_zero, List.set_cons_succ])
          refine wpQuiet_step_h hlq ?_
          clear hlq lq
          intro K lq hlq hK
          refine wanted_go (by rfl) ?_
          refine ⟨?_, fun W hW => ?_, ?_⟩
          rotate_left
          · skip
            go_simp
            with_reducible rfl
          refine hK _ ?_
          clear hK K
          (try simp only [Act.put, List.setIfInBounds_toArray, List.set_cons_zero, List.set_cons_succ])
          refine wpQuiet_step_h hlq ?_
          clear hlq lq
          intro K lq hlq hK
          refine wanted_go (by rfl) ?_
          refine ⟨?_, fun W hW => ?_, ?_⟩
          rotate_left
          · skip
            go_simp
            with_reducible rfl
          refine hK _ ?_
          clear hK K
          (try simp only [Act.put, List.setIfInBounds_toArray, List.set_cons_zero, List.set_cons_succ])
          refine wpQuiet_step_h hlq ?_
          clear hlq lq
          intro K lq hlq hK
          refine wanted_go (by rfl) ?_
          refine ⟨?_, fun W hW => ?_, ?_⟩
          rotate_left
          · skip
            go_simp
            with_reducible rfl
          refine hK _ ?_
          clear hK K
          (try simp only [Act.put, List.setIfInBounds_toArray, List.set_cons_zero, List.set_cons_succ])
          refine wpQuiet_step_h hlq ?_
          clear hlq lq
          intro K lq hlq hK
          refine wanted_go (by rfl) ?_
          refine ⟨.int .i64 y.d.n, fun W hW => ?_, ?_⟩
          · skip
            exact quiet_load 3 _ rfl rfl (ld_dn (hr.out.later hW.bel) Hf.out hy.out)
          refine hK _ ?_
          clear hK K
          (try simp only [Act.put, List.setIfInBounds_toArray, List.set_cons_zero, List.set_cons_succ])
          refine wpQuiet_step_h hlq ?_
          clear hlq lq
          intro K lq hlq hK
          refine wanted_go (by rfl) ?_
          refine ⟨?_, fun W hW => ?_, ?_⟩
          rotate_left
          · skip
            go_simp
            with_reducible rfl
          refine hK _ ?_
          clear hK K
          (try simp only [Act.put, List.setIfInBounds_toArray, List.set_cons_zero, List.set_cons_succ])
          refine wpQuiet_step_h hlq ?_
          clear hlq lq
          intro K lq hlq hK
          refine wanted_go (by rfl) ?_
          refine ⟨?_, fun W hW => ?_, ?_⟩
          rotate_left
          · skip
            go_simp
            with_reducible rfl
          refine hK _ ?_
          clear hK K
          (try simp only [Act.put, List.setIfInBounds_toArray, List.set_cons_zero, List.set_cons_succ])
          refine wpQuiet_step_h hlq ?_
          clear hlq lq
          intro K lq hlq hK
          refine wanted_go (by rfl) ?_
          refine ⟨?_, fun W hW => ?_, ?_⟩
          rotate_left
          · skip
            go_simp
            with_reducible rfl
          refine hK _ ?_
          clear hK K
          (try simp only [Act.put, List.setIfInBounds_toArray, List.set_cons_zero, List.set_cons_succ])
          refine wpQuiet_step_h hlq ?_
          clear hlq lq
          intro K lq hlq hK
          refine wanted_go (by rfl) ?_
          refine ⟨?_, fun W hW => ?_, ?_⟩
          rotate_left
          · skip
            go_simp
            with_reducible rfl
          refine hK _ ?_
          clear hK K
          (try simp only [Act.put, List.setIfInBounds_toArray, List.set_cons_zero, List.set_cons_succ])
          refine wpQuiet_step_h hlq ?_
          clear hlq lq
          intro K lq hlq hK
          refine wanted_go (by rfl) ?_
          refine ⟨?_, fun W hW => ?_, ?_⟩
          rotate_left
          · skip
            go_simp
            with_reducible rfl
          refine hK _ ?_
          clear hK K
          (try simp only [Act.put, List.setIfInBounds_toArray, List.set_cons_zero, List.set_cons_succ])
          refine wpQuiet_step_h hlq ?_
          clear hlq lq
          intro K lq hlq hK
          refine wanted_go (by rfl) ?_
          refine ⟨?_, fun W hW => ?_, ?_⟩
          rotate_left
          · skip
            go_simp
            with_reducible rfl
          refine hK _ ?_
          clear hK K
          (try simp only [Act.put, List.setIfInBounds_toArray, List.set_cons_zero, List.set_cons_succ])
          refine wpQuiet_step_h hlq ?_
          clear hlq lq
          intro K lq hlq hK
          refine wanted_go (by rfl) ?_
          refine ⟨?_, fun W hW => ?_, ?_⟩
          rotate_left
          · skip
            go_simp
            with_reducible rfl
          refine hK _ ?_
          clear hK K
          (try simp only [Act.put, List.setIfInBounds_toArray, List.set_cons_zero, List.set_cons_succ])
          refine wpQuiet_step_h hlq ?_
          clear hlq lq
          intro K lq hlq hK
          refine wanted_go (by rfl) ?_
          refine ⟨.int .i64 p.s.n, fun W hW => ?_, ?_⟩
          · skip
            exact quiet_load 3 _ rfl rfl (ld_sn (hr.out.later hW.bel) Hf.out hget.out)
          refine hK _ ?_
          clear hK K
          (try simp only [Act.put, List.setIfInBounds_toArray, List.set_cons_zero, List.set_cons_succ])
          refine wpQuiet_step_h hlq ?_
          clear hlq lq
          intro K lq hlq hK
          refine wanted_go (by rfl) ?_
          refine ⟨?_, fun W hW => ?_, ?_⟩
          rotate_left
          · skip
            go_simp
            with_reducible rfl
          refine hK _ ?_
          clear hK K
          (try simp only [Act.put, List.setIfInBounds_toArray, List.set_cons_zero, List.set_cons_succ])
          refine wpQuiet_step_h hlq ?_
          clear hlq lq
          intro K lq hlq hK
          refine wanted_go (by rfl) ?_
          refine ⟨?_, fun W hW => ?_, ?_⟩
          rotate_left
          · skip
            go_simp
            with_reducible rfl
          refine hK _ ?_
          clear hK K
          (try simp only [Act.put, List.setIfInBounds_toArray, List.set_cons_zero, List.set_cons_succ])
          refine wpQuiet_step_h hlq ?_
          clear hlq lq
          intro K lq hlq hK
          refine wanted_go (by rfl) ?_
          refine ⟨?_, fun W hW => ?_, ?_⟩
          rotate_left
          · skip
            go_simp
            with_reducible rfl
          refine hK _ ?_
          clear hK K
          (try simp only [Act.put, List.setIfInBounds_toArray, List.set_cons_zero, List.set_cons_succ])
          refine wpQuiet_step_h hlq ?_
          clear hlq lq
          intro K lq hlq hK
          refine wanted_go (by rfl) ?_
          refine ⟨?_, fun W hW => ?_, ?_⟩
          rotate_left
          · skip
            go_simp
            with_reducible rfl
          refine hK _ ?_
          clear hK K
          (try simp only [Act.put, List.setIfInBounds_toArray, List.set_cons_zero, List.set_cons_succ])
          refine wpQuiet_step_h hlq ?_
          clear hlq lq
          intro K lq hlq hK
          refine wanted_go (by rfl) ?_
          refine ⟨?_, fun W hW => ?_, ?_⟩
          rotate_left
          · skip
            go_simp
            with_reducible rfl
          refine hK _ ?_
          clear hK K
          (try simp only [Act.put, List.setIfInBounds_toArray, List.set_cons_zero, List.set_cons_succ])
          refine wpQuiet_step_h hlq ?_
          clear hlq lq
          intro K lq hlq hK
          refine wanted_go (by rfl) ?_
          refine ⟨.int .i64 y.s.n, fun W hW => ?_, ?_⟩
          · skip
            exact quiet_load 3 _ rfl rfl (ld_sn (hr.out.later hW.bel) Hf.out hy.out)
          refine hK _ ?_
          clear hK K
          (try simp only [Act.put, List.setIfInBounds_toArray, List.set_cons_zero, List.set_cons_succ])
          refine wpQuiet_step_h hlq ?_
          clear hlq lq
          intro K lq hlq hK
          refine wanted_go (by rfl) ?_
          refine ⟨?_, fun W hW => ?_, ?_⟩
          rotate_left
          · skip
            go_simp
            with_reducible rfl
          refine hK _ ?_
          clear hK K
          (try simp only [Act.put, List.setIfInBounds_toArray, List.set_cons_zero, List.set_cons_succ])
          refine wpQuiet_step_h hlq ?_
          clear hlq lq
          intro K lq hlq hK
          refine wanted_go (by rfl) ?_
          refine ⟨?_, fun W hW => ?_, ?_⟩
          rotate_left
          · skip
            go_simp
            with_reducible rfl
          refine hK _ ?_
          clear hK K
          (try simp only [Act.put, List.setIfInBounds_toArray, List.set_cons_zero, List.set_cons_succ])
          refine wpQuiet_step_h hlq ?_
          clear hlq lq
          intro K lq hlq hK
          refine wanted_go (by rfl) ?_
          refine ⟨?_, fun W hW => ?_, ?_⟩
          rotate_left
          · skip
            go_simp
            with_reducible rfl
          refine hK _ ?_
          clear hK K
          (try simp only [Act.put, List.setIfInBounds_toArray, List.set_cons_zero, List.set_cons_succ])
          refine wpQuiet_step_h hlq ?_
          clear hlq lq
          intro K lq hlq hK
          refine wanted_go (by rfl) ?_
          refine ⟨?_, fun W hW => ?_, ?_⟩
          rotate_left
          · skip
            go_simp
            with_reducible rfl
          refine hK _ ?_
          clear hK K
          (try simp only [Act.put, List.setIfInBounds_toArray, List.set_cons_zero, List.set_cons_succ])
          refine wpQuiet_step_h hlq ?_
          clear hlq lq
          intro K lq hlq hK
          refine wanted_go (by rfl) ?_
          refine ⟨?_, fun W hW => ?_, ?_⟩
          rotate_left
          · skip
            go_simp
            with_reducible rfl
          refine hK _ ?_
          clear hK K
          (try simp only [Act.put, List.setIfInBounds_toArray, List.set_cons_zero, List.set_cons_succ])
          refine wpQuiet_step_h hlq ?_
          clear hlq lq
          intro K lq hlq hK
          refine wanted_go (by rfl) ?_
          refine ⟨?_, fun W hW => ?_, ?_⟩
          rotate_left
          · skip
            go_simp
            with_reducible rfl
          refine hK _ ?_
          clear hK K
          (try simp only [Act.put, List.setIfInBounds_toArray, List.set_cons_zero, List.set_cons_succ])
          refine wpQuiet_step_h hlq ?_
          clear hlq lq
          intro K lq hlq hK
          refine wanted_go (by rfl) ?_
          refine ⟨?_, fun W hW => ?_, ?_⟩
          rotate_left
          · skip
            go_simp
            with_reducible rfl
          refine hK _ ?_
          clear hK K
          (try simp only [Act.put, List.setIfInBounds_toArray, List.set_cons_zero, List.set_cons_succ])
          refine wpQuiet_step_h hlq ?_
          clear hlq lq
          intro K lq hlq hK
          refine wanted_go (by rfl) ?_
          refine ⟨.int .i64 p.s.n, fun W hW => ?_, ?_⟩
          · skip
            exact quiet_load 3 _ rfl rfl (ld_sn (hr.out.later hW.bel) Hf.out hget.out)
          refine hK _ ?_
          clear hK K
          (try simp only [Act.put, List.setIfInBounds_toArray, List.set_cons_zero, List.set_cons_succ])
          refine wpQuiet_step_h hlq ?_
          clear hlq lq
          intro K lq hlq hK
          refine wanted_go (by rfl) ?_
          refine ⟨?_, fun W hW => ?_, ?_⟩
          rotate_left
          · skip
            go_simp
            with_reducible rfl
          refine hK _ ?_
          clear hK K
          (try simp only [Act.put, List.setIfInBounds_toArray, List.set_cons_zero, List.set_cons_succ])
          refine wpQuiet_step_h hlq ?_
          clear hlq lq
          intro K lq hlq hK
          refine wanted_go (by rfl) ?_
          refine ⟨?_, fun W hW => ?_, ?_⟩
          rotate_left
          · skip
            go_simp
            with_reducible rfl
          refine hK _ ?_
          clear hK K
          (try simp only [Act.put, List.setIfInBounds_toArray, List.set_cons_zero, List.set_cons_succ])
          refine wpQuiet_step_h hlq ?_
          clear hlq lq
          intro K lq hlq hK
          refine wanted_go (by rfl) ?_
          refine ⟨?_, fun W hW => ?_, ?_⟩
          rotate_left
          · skip
            go_simp
            with_reducible rfl
          refine hK _ ?_
          clear hK K
          (try simp only [Act.put, List.setIfInBounds_toArray, List.set_cons_zero, List.set_cons_succ])
          refine wpQuiet_step_h hlq ?_
          clear hlq lq
          intro K lq hlq hK
          refine wanted_go (by rfl) ?_
          refine ⟨?_, fun W hW => ?_, ?_⟩
          rotate_left
          · skip
            go_simp
            with_reducible rfl
          refine hK _ ?_
          clear hK K
          (try simp only [Act.put, List.setIfInBounds_toArray, List.set_cons_zero, List.set_cons_succ])
          refine wpQuiet_step_h hlq ?_
          clear hlq lq
          intro K lq hlq hK
          refine wanted_go (by rfl) ?_
          refine ⟨?_, fun W hW => ?_, ?_⟩
          rotate_left
          · skip
            go_simp
            with_reducible rfl
          refine hK _ ?_
          clear hK K
          (try simp only [Act.put, List.setIfInBounds_toArray, List.set_cons_zero, List.set_cons_succ])
          refine wpQuiet_step_h hlq ?_
          clear hlq lq
          intro K lq hlq hK
          refine wanted_go (by rfl) ?_
          refine ⟨.int .i64 y.s.n, fun W hW => ?_, ?_⟩
          · skip
            exact quiet_load 3 _ rfl rfl (ld_sn (hr.out.later hW.bel) Hf.out hy.out)
          refine hK _ ?_
          clear hK K
          (try simp only [Act.put, List.setIfInBounds_toArray, List.set_cons_zero, List.set_cons_succ])
          refine wpQuiet_step_h hlq ?_
          clear hlq lq
          intro K lq hlq hK
          refine wanted_go (by rfl) ?_
          refine ⟨?_, fun W hW => ?_, ?_⟩
          rotate_left
          · skip
            go_simp
            with_reducible rfl
          refine hK _ ?_
          clear hK K
          (try simp only [Act.put, List.setIfInBounds_toArray, List.set_cons_zero, List.set_cons_succ])
          refine wpQuiet_step_h hlq ?_
          clear hlq lq
          intro K lq hlq hK
          refine wanted_go (by rfl) ?_
          refine ⟨?_, fun W hW => ?_, ?_⟩
          rotate_left
          · skip
            go_simp
            with_reducible rfl
          refine hK _ ?_
          clear hK K
          (try simp only [Act.put, List.setIfInBounds_toArray, List.set_cons_zero, List.set_cons_succ])
          refine wpQuiet_step_h hlq ?_
          clear hlq lq
          intro K lq hlq hK
          refine wanted_go (by rfl) ?_
          refine ⟨?_, fun W hW => ?_, ?_⟩
          rotate_left
          · skip
            go_simp
            with_reducible rfl
          refine hK _ ?_
          clear hK K
          (try simp only [Act.put, List.setIfInBounds_toArray, List.set_cons_zero, List.set_cons_succ])
          refine wpQuiet_step_h hlq ?_
          clear hlq lq
          intro K lq hlq hK
          refine wanted_go (by rfl) ?_
          refine ⟨?_, fun W hW => ?_, ?_⟩
          rotate_left
          · skip
            go_simp
            with_reducible rfl
          refine hK _ ?_
          clear hK K
          (try simp only [Act.put, List.setIfInBounds_toArray, List.set_cons_zero, List.set_cons_succ])
          refine wpQuiet_step_h hlq ?_
          clear hlq lq
          intro K lq hlq hK
          refine wanted_go (by rfl) ?_
          refine ⟨?_, fun W hW => ?_, ?_⟩
          rotate_left
          · skip
            go_simp
            with_reducible rfl
          refine hK _ ?_
          clear hK K
          (try simp only [Act.put, List.setIfInBounds_toArray, List.set_cons_zero, List.set_cons_succ])
          refine wpQuiet_step_h hlq ?_
          clear hlq lq
          intro K lq hlq hK
          refine wanted_go (by rfl) ?_
          refine ⟨?_, fun W hW => ?_, ?_⟩
          rotate_left
          · skip
            go_simp
            with_reducible rfl
          refine hK _ ?_
          clear hK K
          (try simp only [Act.put, List.setIfInBounds_toArray, List.set_cons_zero, List.set_cons_succ])
          refine wpQuiet_step_h hlq ?_
          clear hlq lq
          intro K lq hlq hK
          refine wanted_go (by rfl) ?_
          refine ⟨?_, fun W hW => ?_, ?_⟩
          rotate_left
          · skip
            go_simp
            with_reducible rfl
          refine hK _ ?_
          clear hK K
          (try simp only [Act.put, List.setIfInBounds_toArray, List.set_cons_zero, List.set_cons_succ])
          refine wpQuiet_step_h hlq ?_
          clear hlq lq
          intro K lq hlq hK
          refine wanted_go (by rfl) ?_
          refine ⟨?_, fun W hW => ?_, ?_⟩
          rotate_left
          · skip
            go_simp
            with_reducible rfl
          refine hK _ ?_
          clear hK K
          (try simp only [Act.put, List.setIfInBounds_toArray, List.set_cons_zero, List.set_cons_succ])
          refine wpQuiet_step_h hlq ?_
          clear hlq lq
          intro K lq hlq hK
          refine wanted_go (by rfl) ?_
          refine ⟨?_, fun W hW => ?_, ?_⟩
          rotate_left
          · skip
            go_simp
            with_reducible rfl
          refine hK _ ?_
          clear hK K
          (try simp only [Act.put, List.setIfInBounds_toArray, List.set_cons_zero, List.set_cons_succ])
          refine wpQuiet_nil_h hlq ?_
          clear hlq lq hV2
          intro V3 hV4
          go_wp2_with fail
          refine ⟨⟨i + 1, by congr 1, by omega, hV4⟩, by simp [intOf]; omega⟩
    · obtain rfl : i = l.length := by omega
      have hi3 : decide ((l.length : Int) < l.length) = false := decide_eq_false (by omega)
      go_wp2_with (go_at_call 28; refine (live02_any (bx.env E)).mono ?_; rintro e w5 ⟨rfl, bel⟩)
      go_ret
      exact ⟨rfl, (bx.go bel).bel⟩
theorem AddrMost_walk (v : Value) (l : List Pr) (src dst : List Int) {w : World} (h : (∀ p ∈ l, p.fit) ∧ Prs w v l) (hs : isA src) (hd : isA dst) (E : Env w) : Calls Tryz.prog 7 #[v, vA src, vA dst] w fun e w' => e = .returned (.bool true) ∧ Below w.heap.size w w' := by
  obtain ⟨hf, hr⟩ := h
  by_cases hl : 60 < l.length
  · exact most_long hs hd hr E hl
  · obtain ⟨k, ok, hb⟩ := IsBest.some l src dst l.length (Nat.le_refl _)
    cases ok with
    | false => exact most_no hs hd hf hr E (by omega) hb
    | true => exact most_yes hs hd hf hr E (by omega) hb
end Go.Proofs.YtnljjlaececnkaaGreatDoor
