/-
  grouped: the text of an address of sixteen bytes in groups. Condition: the variables hold what their initialisers laid; an address is sixteen bytes.
-/
import Derived.Test.YtnljjlaececnkaaGreatDoorXB
namespace Go.Proofs.YtnljjlaececnkaaGreatDoor
open Go.RowKit
set_option linter.unusedVariables false
set_option linter.unusedSimpArgs false
/-- A group of an address. -/
def gr (a : List Int) (i : Nat) : Nat := (a.getD (2 * i) 0 * 256 + a.getD (2 * i + 1) 0).toNat
def groups (a : List Int) : List Nat := (List.range 8).map (gr a)
theorem groups_len (a : List Int) : (groups a).length = 8 := by simp [groups]
theorem groups_get {a : List Int} {j : Nat} (h : j < 8) : (groups a)[j]? = some (gr a j) := by simp [groups, h]
theorem isA_getD {a : List Int} (ha : isA a) {j : Nat} (h : j < 16) : ∃ x, a[j]? = some x ∧ a.getD j 0 = x ∧ 0 ≤ x ∧ x < 256 := by
  obtain ⟨x, hx⟩ := get_some (l := a) (j := j) (by rw [ha.1]; exact h)
  exact ⟨x, hx, by rw [List.getD_eq_getElem?_getD, hx]; rfl, ha.2 x (List.mem_of_getElem? hx)⟩
theorem groups_lt {a : List Int} (ha : isA a) : ∀ u ∈ groups a, u < 65536 := by
  intro u hu
  simp [groups] at hu
  obtain ⟨i, hi, rfl⟩ := hu
  obtain ⟨x, -, hx, x0, x1⟩ := isA_getD ha (j := 2 * i) (by omega)
  obtain ⟨y, -, hy, y0, y1⟩ := isA_getD ha (j := 2 * i + 1) (by omega)
  unfold gr; rw [hx, hy]; omega
theorem or_bytes {x y : Int} (x0 : 0 ≤ x) (x1 : x < 256) (y0 : 0 ≤ y) (y1 : y < 256) : bits .or .u16 (x * 256) y = x * 256 + y := by
  have w : ∀ n : Int, 0 ≤ n → n < 2 ^ 16 → IntKind.u16.wrap n = n := fun n h0 h1 => by rw [IntKind.wrap_u16]; omega
  exact bits_join .u16 16 (by decide) w 8 (x * 256) y (by omega) (by simp) (by simp; omega) y0 (by simpa using y1) (by simp; omega)
/-- The row of groups while it is filled. -/
def grT (a : List Int) (j : Nat) : List Nat := (groups a).take j ++ List.replicate (8 - j) 0
theorem grT_len (a : List Int) {j : Nat} (h : j ≤ 8) : (grT a j).length = 8 := by simp [grT, groups_len]; omega
theorem grT_step {a : List Int} {j : Nat} (h : j < 8) : (grT a j)[j]? = some 0 ∧ (grT a j).set j (gr a j) = grT a (j + 1) := by
  have hl : ((groups a).take j).length = j := by simp [groups_len]; omega
  unfold grT
  refine ⟨?_, ?_⟩
  · rw [List.getElem?_append_right (by omega), hl, Nat.sub_self, List.getElem?_replicate, if_pos (by omega)]
  · rw [List.set_append_right _ _ (by omega), hl, Nat.sub_self, show 8 - j = (8 - (j + 1)) + 1 by omega, List.replicate_succ, List.set_cons_zero, take_snoc (groups_get h), List.append_assoc]; rfl
theorem grT_all (a : List Int) : grT a 8 = groups a := by simp [grT, groups_len, List.take_of_length_le]
theorem u16s_set (l : List Nat) (i y : Nat) : (u16s l).set i (.int .u16 (y : Int)) = u16s (l.set i y) := by simp [u16s, List.map_set]
theorem u16s_get {l : List Nat} {j u : Nat} (h : l[j]? = some u) : (u16s l)[j]? = some (.int .u16 (u : Int)) := by simp [u16s, h]
/-- grouped. -/
def groupedS (a : List Int) : List UInt8 :=
  let l := groups a; let r := runAt l 8
  if r.2 = r.1 then joinS l else joinS (l.take r.1) ++ [58, 58] ++ joinS (l.drop r.2)
theorem str_add (W : World) (l r : List UInt8) (h : l.length + r.length ≤ 9223372036854775807) : (binOp .add 9 (.string ⟨l.toArray⟩) (.string ⟨r.toArray⟩)).run Tryz.prog W = .ok (.string ⟨(l ++ r).toArray⟩) W := by
  have hs : ¬ ((⟨l.toArray⟩ : ByteArray).size + (⟨r.toArray⟩ : ByteArray).size > 9223372036854775807) := by
    show ¬ (l.toArray.size + r.toArray.size > _); simp; omega
  have he : (⟨l.toArray⟩ : ByteArray) ++ ⟨r.toArray⟩ = ⟨(l ++ r).toArray⟩ := by
    apply ByteArray.ext; simp
  rw [binOp_string_add]
  refine (run_string_add_sum (P := Tryz.prog) (w := W) ⟨l.toArray⟩ ⟨r.toArray⟩ (by omega)).trans ?_
  exact congrArg (fun s => Result.ok (Value.string s) W) he
theorem quiet_add {P : Program} {C : World → Prop} {o : Oper} {a : Act} {w : World} {r : Value} {t t' : TypeId} {x y : Operand} {b1 b2 : ByteArray} (ho : o.op = .binOp .add t x y t') (hx : a.eval x = .string b1) (hy : a.eval y = .string b2)
    (h : (binOp .add t (.string b1) (.string b2)).run P w = .ok r w) : Oper.quietAt P o a C w r := by
  unfold Oper.quietAt execOp
  simp only [ho, hx, hy, Sem.run_bind, eqGuard, Bool.not_false, if_true, Sem.run_pure, Result.andThen_ok, h]
  exact ⟨rfl, rfl⟩
def offE (k : Nat) : Nat := if k = 8 then 0 else k
theorem slice217_low (W : World) (g : Nat) {k : Nat} (hk : k ≤ 8) : (Instr.sliceAt 217 (.pointer (some ⟨g, 0, none⟩)) (some (.int .i64 (k : Int))) none none).run Tryz.prog W = .ok (.slice (some ⟨g, offE k, none⟩) (8 - k) (8 - k)) W := by
  have a16 : Tryz.prog.arrayLen 217 = 8 := by kernel_rfl
  have e5 : Tryz.prog.elem 217 = 105 := by kernel_rfl
  have hs : (sizeOf 105).run Tryz.prog W = .ok 1 W := by kernel_rfl
  have h := run_sliceAt_array_l (P := Tryz.prog) W 217 ⟨g, 0, none⟩ (by kernel_rfl) .i64 (k : Int) (by omega) (by rw [a16]; omega)
  rw [h, e5, hs, a16]
  unfold offE
  by_cases h0 : k = 8
  · subst h0; simp [Result.andThen, slicedAt]
  · have h1 : 8 ≠ k := by omega
    simp [Result.andThen, slicedAt, h0, h1, Addr.add]
    try omega
theorem slice217_high (W : World) (g : Nat) {k : Nat} (hk : k ≤ 8) : (Instr.sliceAt 217 (.pointer (some ⟨g, 0, none⟩)) none (some (.int .i64 (k : Int))) none).run Tryz.prog W = .ok (.slice (some ⟨g, 0, none⟩) k 8) W := by
  have a16 : Tryz.prog.arrayLen 217 = 8 := by kernel_rfl
  have e5 : Tryz.prog.elem 217 = 105 := by kernel_rfl
  have hs : (sizeOf 105).run Tryz.prog W = .ok 1 W := by kernel_rfl
  have h := run_sliceAt_array_h (P := Tryz.prog) W 217 ⟨g, 0, none⟩ (by kernel_rfl) .i64 (k : Int) (by omega) (by rw [a16]; omega)
  rw [h, e5, hs, a16]
  simp [Result.andThen, slicedAt, Addr.add]
theorem join_part {W : World} (E : Env W) {l : List Nat} {g k m c : Nat} {A : Option Addr} (hr : W.heap[g]? = some (oG l)) (hl : l.length = 8) (hu : ∀ u ∈ l, u < 65536) (hkm : k + m ≤ 8) (hc : m ≤ c) (hc2 : c ≤ 8) (hA : A ≠ none) (hA2 : 0 < m → A = some ⟨g, k, none⟩) :
    Calls Tryz.prog 164 #[.slice A m c] W fun e w' => e = .returned (.string ⟨(joinS ((l.drop k).take m)).toArray⟩) ∧ Below W.heap.size W w' := by
  have hlen : ((l.drop k).take m).length = m := by rw [List.length_take, List.length_drop]; omega
  refine join_any E (l := (l.drop k).take m) (by omega) (fun u h => hu u (List.mem_of_mem_drop (List.mem_of_mem_take h))) ?_
  rw [hlen]
  refine ⟨by rw [u16s_len, hlen]; omega, A, c, rfl, hc, (by unfold maxLen; omega), (fun h => absurd h hA), fun x hx hm => ⟨g, k, ?_, by have := lt_of_obj hr; omega, lt_of_obj hr, fun j u hj => ?_⟩⟩
  · rw [hA2 hm] at hx; exact (Option.some.inj hx).symm
  · have hj2 : (u16s l)[k + j]? = some u := by
      unfold u16s at hj ⊢
      rw [List.getElem?_map] at hj ⊢
      by_cases hjm : j < m
      · rwa [List.getElem?_take_of_lt hjm, List.getElem?_drop] at hj
      · rw [List.getElem?_eq_none (by omega)] at hj; cases hj
    have := row_load hr (k + j) u hj2
    rwa [Nat.zero_add] at this
set_option maxRecDepth 100000 in
set_option maxHeartbeats 1600000 in
theorem grouped_any {w : World} (E : Env w) {a : List Int} (ha : isA a) : Calls Tryz.prog 106 #[vA a] w fun e w' => e = .returned (.string ⟨(groupedS a).toArray⟩) ∧ Below w.heap.size w w' := by
  have Ha := Lib.hid ha
  clear ha
  unfold vA
  go_enter Tryz.func106, Tryz.ntmps106
  go_wp2
  go_loopw [8] (fun x wr => ∃ j : Nat, x = .int .i64 j ∧ j ≤ 8 ∧ wr.heap[w.heap.size]? = some (oA a) ∧ wr.heap[w.heap.size + 1]? = some (oG (grT a j)) ∧ Below w.heap.size w wr) (fun x wr => 8 - (intOf x).toNat)
  case atStart =>
    exact ⟨0, rfl, by omega, box21 w _ _, by rw [show grT a 0 = [0, 0, 0, 0, 0, 0, 0, 0] from by simp [grT, List.replicate]]; exact box22 w _ _, ((Below.refl _ _).alloc (Nat.le_refl _) _).alloc (by simp) _⟩
  case round =>
    obtain ⟨j, rfl, hj, hr, hr2, bel⟩ := hrel
    by_cases hlt : j < 8
    · obtain ⟨x, hx, hx2, x0, x1⟩ := isA_getD Ha.out (j := 2 * j) (by omega)
      obtain ⟨y, hy, hy2, y0, y1⟩ := isA_getD Ha.out (j := 2 * j + 1) (by omega)
      obtain ⟨m1, m2⟩ := grT_step (a := a) hlt
      have hg : ((gr a j : Nat) : Int) = x * 256 + y := by unfold gr; rw [hx2, hy2]; omega
      have hor := or_bytes x0 x1 y0 y1
      have hj8 : decide ((j : Int) < 8) = true := decide_eq_true (by omega)
      replace m2 := Lib.hid m2
      replace m1 := Lib.hid m1
      replace hx := Lib.hid hx
      replace hy := Lib.hid hy
      replace hor := Lib.hid hor
      replace hg := Lib.hid hg
      replace hr := Lib.hid hr
      replace hr2 := Lib.hid hr2
      clear hx2 hy2
      go_wp2_with fail
      refine wp_region_tail 15 (by kernel_rfl) (by kernel_rfl) ?_
      intro w2 hw2
      have row2 : w2.heap[w.heap.size + 1]? = some (oG (grT a j)) := by rw [hw2]; exact hr2.out
      have row3 : w2.heap[w.heap.size]? = some (oA a) := by rw [hw2]; exact hr.out
      have bel2 : Below w.heap.size w w2 := by rw [hw2]; exact ⟨bel.os, bel.tape, bel.output, bel.size, bel.block⟩
      clear hw2 bel hr hr2
      have c1 : w2.cell? ⟨w.heap.size, 2 * j, none⟩ = some (.int .u8 x) := (row_cell row3).trans (by rw [List.getElem?_toArray]; exact nums_get hx.out)
      have c2 : w2.cell? ⟨w.heap.size, 2 * j + 1, none⟩ = some (.int .u8 y) := (row_cell row3).trans (by rw [List.getElem?_toArray]; exact nums_get hy.out)
      have c3 : w2.cell? ⟨w.heap.size + 1, j, none⟩ = some (.int .u16 ((0 : Nat) : Int)) := (row_cell row2).trans (by rw [List.getElem?_toArray]; exact u16s_get m1.out)
      have f1 : w2.frozen? ⟨w.heap.size + 1, j, none⟩ = false := row_free row2
      have row4 := Lib.hid (row_set row2 (i := j) (cs' := (u16s (grT a (j + 1))).toArray) (.int .u16 (x * 256 + y)) (by rw [List.setIfInBounds_toArray, ← hg.out, u16s_set, m2.out]))
      have g1 : Fr (fun b => b = w.heap.size + 1) w2 (w2.setCell ⟨w.heap.size + 1, j, none⟩ (.int .u16 (x * 256 + y))) := Fr.setCell (S := fun b => b = w.heap.size + 1) (Fr.refl _ w2) (p := ⟨w.heap.size + 1, j, none⟩) (.inl rfl) _
      have row5 := Lib.hid (g1.obj row3 (by omega))
      have bel3 := bel2.trans (g1.belowS (fun b hb => by omega) bel2.size)
      replace row2 := Lib.hid row2
      replace row3 := Lib.hid row3
      simp only [List.take_succ_cons, List.take_zero, List.drop_succ_cons, List.drop_zero]
      have hw1 : IntKind.i64.wrap (2 * (j : Int)) = 2 * (j : Int) := by rw [IntKind.wrap_i64]; omega
      have hw2 : IntKind.i64.wrap (2 * (j : Int) + 1) = 2 * (j : Int) + 1 := by rw [IntKind.wrap_i64]; omega
      have hn1 : (2 * (j : Int)).toNat = 2 * j := by omega
      have hn2 : (2 * (j : Int) + 1).toNat = 2 * j + 1 := by omega
      have hi1 : (0 : Int) ≤ 2 * (j : Int) := by omega
      have hi2 : 2 * (j : Int) < 16 := by omega
      have hi3 : (0 : Int) ≤ 2 * (j : Int) + 1 := by omega
      have hi4 : 2 * (j : Int) + 1 < 16 := by omega
      repeat still_step
      have wx : IntKind.u16.wrap x = x := by rw [IntKind.wrap_u16]; omega
      have wy : IntKind.u16.wrap y = y := by rw [IntKind.wrap_u16]; omega
      have wxx : IntKind.u16.wrap (x * 256) = x * 256 := by rw [IntKind.wrap_u16]; omega
      rw [wx, wxx, wy, hor.out]
      have hi5 : (j : Int) < 8 := by omega
      repeat still_step
      refine wpStill_nil ?_
      go_wp2_with fail
      go_roundw
      case rel => exact ⟨j + 1, by go_num, by omega, row5.out, row4.out, bel3⟩
      case measure => simp [intOf]; omega
    · obtain rfl : j = 8 := by omega
      rw [grT_all] at hr2
      have hr8 : Hid (w.heap.size + 1 < wr.heap.size) := Lib.hid (lt_of_obj hr2)
      have hrun := run_any (w := wr) (groups_len a) (groups_lt Ha.out)
      have hle := runAt_le (groups a) 8 (by rw [groups_len]; decide)
      have hgs : Hid (groupedS a = if (runAt (groups a) 8).2 = (runAt (groups a) 8).1 then joinS (groups a) else joinS ((groups a).take (runAt (groups a) 8).1) ++ [58, 58] ++ joinS ((groups a).drop (runAt (groups a) 8).2)) := Lib.hid rfl
      have hlt8 := Lib.hid (groups_lt Ha.out)
      have hlen8 := Lib.hid (groups_len a)
      obtain ⟨lo, hi, hlh⟩ : ∃ lo hi, runAt (groups a) 8 = (lo, hi) := ⟨_, _, rfl⟩
      rw [hlh] at hrun hle hgs
      simp only at hrun hle hgs
      rw [groups_len] at hle
      obtain ⟨hle1, hle2⟩ := hle
      generalize hL : groups a = L at *
      have hbx : Hid (Bx w w.heap.size [(w.heap.size, oA a), (w.heap.size + 1, oG L)] wr) := Lib.hid ⟨bel, ⟨hr, hr2, trivial⟩, bel.size⟩
      replace hr := Lib.hid hr
      have lr := row_load hr2
      replace hr2 := Lib.hid hr2
      by_cases he : hi = lo
      · replace hgs := hgs.out.trans (if_pos he)
        subst he
        replace hgs := Lib.hid hgs
        go_wp2_with (first | (refine wpList_load_mid rfl 217 (.tmp 3) rfl (w.heap.size + 1) 0 rfl (u16s L) _ lr Tryz.underlying217 rfl (by rw [size217, u16s_len, hlen8.out]) ?_) | (go_at_call 165; refine hrun.mono ?_; clear hrun; rintro e w1 ⟨rfl, bel1⟩; have hbx1 := Lib.hid (hbx.out.go bel1)) | (go_at_call 164; refine (join_part (k := 0) (m := 8) (E.go hbx1.out.1).2 hbx1.out.2.1.2.1 hlen8.out hlt8.out (by omega) (by omega) (by omega) (by simp) (fun _ => rfl)).mono ?_; rintro e w2 ⟨rfl, bel2⟩))
        go_ret
        have e0 : (L.drop 0).take 8 = L := by rw [List.drop_zero, List.take_of_length_le (Nat.le_of_eq hlen8.out)]
        exact ⟨congrArg (fun x : List UInt8 => Ending.returned (.string ⟨x.toArray⟩)) (show joinS (L.take 8) = groupedS a by rw [hgs.out, ← e0, List.drop_zero, List.take_take]; rfl), hbx1.out.1.trans (bel2.mono hbx1.out.2.2)⟩
      · have hgs2 := Lib.hid (hgs.out.trans (if_neg he))
        clear hgs
        have hel : decide ((hi : Int) = lo) = false := decide_eq_false (by omega)
        go_wp2_with (first | (refine wpList_load_mid rfl 217 (.tmp 3) rfl (w.heap.size + 1) 0 rfl (u16s L) _ lr Tryz.underlying217 rfl (by rw [size217, u16s_len, hlen8.out]) ?_) | (go_at_call 165; refine hrun.mono ?_; clear hrun; rintro e w1 ⟨rfl, bel1⟩; have hbx1 := Lib.hid (hbx.out.go bel1)))
        have hs1 := fun W => slice217_high W (w.heap.size + 1) (k := lo) (by omega)
        have hs2 := fun W => slice217_low W (w.heap.size + 1) (k := hi) hle2
        obtain ⟨j1, hj1⟩ : ∃ j, joinS (L.take lo) = j := ⟨_, rfl⟩
        obtain ⟨j2, hj2⟩ : ∃ j, joinS (L.drop hi) = j := ⟨_, rfl⟩
        have hl1 : j1.length ≤ 40 := by rw [← hj1]; have := join_len (L.take lo) (fun u h => hlt8.out u (List.mem_of_mem_take h)); have := hlen8.out; rw [List.length_take] at *; omega
        have hl2 : j2.length ≤ 40 := by rw [← hj2]; have := join_len (L.drop hi) (fun u h => hlt8.out u (List.mem_of_mem_drop h)); have := hlen8.out; rw [List.length_drop] at *; omega
        have ht1 : joinS ((L.drop 0).take lo) = j1 := by rw [List.drop_zero, hj1]
        have ht2 : joinS ((L.drop hi).take (8 - hi)) = j2 := by rw [List.take_of_length_le (by rw [List.length_drop, hlen8.out]; omega), hj2]
        have ha1 := fun W => str_add W j1 [58, 58] (by simp; omega)
        have ha2 := fun W => str_add W (j1 ++ [58, 58]) j2 (by simp; omega)
        rw [hj1, hj2] at hgs2
        replace ht1 := Lib.hid ht1
        replace ht2 := Lib.hid ht2
        replace ha1 := Lib.hid ha1
        replace ha2 := Lib.hid ha2
        refine wp_region_C (C := Bx w w.heap.size [(w.heap.size, oA a), (w.heap.size + 1, oG L)]) (by kernel_rfl) (by kernel_rfl) (Bx.drew hbx1.out) ?_
        refine wpQuiet_hide ?_
        intro lq hlq
        refine wpQuiet_step_h hlq ?_
        clear hlq lq
        intro K lq hlq hK
        refine wanted_go (by rfl) ?_
        refine ⟨?_, fun W hW => ?_, ?_⟩
        rotate_left
        · skip
          go_simp
          with_reducible rfl
        refine hK _ ?_
        clear hK K
        (try simp only [Act.put, List.setIfInBounds_toArray, List.set_cons_zero, List.set_cons_succ])
        refine wpQuiet_step_h hlq ?_
        clear hlq lq
        intro K lq hlq hK
        refine wanted_go (by rfl) ?_
        refine ⟨?_, fun W hW => ?_, ?_⟩
        rotate_left
        · skip
          go_simp
          with_reducible rfl
        refine hK _ ?_
        clear hK K
        (try simp only [Act.put, List.setIfInBounds_toArray, List.set_cons_zero, List.set_cons_succ])
        refine wpQuiet_step_h hlq ?_
        clear hlq lq
        intro K lq hlq hK
        refine wanted_go (by rfl) ?_
        refine ⟨?_, fun W hW => ?_, ?_⟩
        rotate_left
        · skip
          go_simp
          with_reducible rfl
        refine hK _ ?_
        clear hK K
        (try simp only [Act.put, List.setIfInBounds_toArray, List.set_cons_zero, List.set_cons_succ])
        refine wpQuiet_step_h hlq ?_
        clear hlq lq
        intro K lq hlq hK
        refine wanted_go (by rfl) ?_
        refine ⟨.string ⟨j1.toArray⟩, fun W hW => ?_, ?_⟩
        · go_simp
          refine (join_part (k := 0) (m := lo) (E.go hW.1).2 hW.2.1.2.1 hlen8.out hlt8.out (by omega) (by omega) (by omega) (by simp) (fun _ => rfl)).mono fun e W2 hc2 => ⟨by rw [hc2.1, ht1.out], hW.go hc2.2⟩
        refine hK _ ?_
        clear hK K
        (try simp only [Act.put, List.setIfInBounds_toArray, List.set_cons_zero, List.set_cons_succ])
        refine wpQuiet_step_h hlq ?_
        clear hlq lq
        intro K lq hlq hK
        refine wanted_go (by rfl) ?_
        refine ⟨.string ⟨(j1 ++ [58, 58]).toArray⟩, fun W hW => ?_, ?_⟩
        · skip
          exact quiet_add rfl rfl rfl (ha1.out W)
        refine hK _ ?_
        clear hK K
        (try simp only [Act.put, List.setIfInBounds_toArray, List.set_cons_zero, List.set_cons_succ])
        refine wpQuiet_step_h hlq ?_
        clear hlq lq
        intro K lq hlq hK
        refine wanted_go (by rfl) ?_
        refine ⟨?_, fun W hW => ?_, ?_⟩
        rotate_left
        · skip
          go_simp
          with_reducible rfl
        refine hK _ ?_
        clear hK K
        (try simp only [Act.put, List.setIfInBounds_toArray, List.set_cons_zero, List.set_cons_succ])
        refine wpQuiet_step_h hlq ?_
        clear hlq lq
        intro K lq hlq hK
        refine wanted_go (by rfl) ?_
        refine ⟨?_, fun W hW => ?_, ?_⟩
        rotate_left
        · skip
          go_simp
          with_reducible rfl
        refine hK _ ?_
        clear hK K
        (try simp only [Act.put, List.setIfInBounds_toArray, List.set_cons_zero, List.set_cons_succ])
        refine wpQuiet_step_h hlq ?_
        clear hlq lq
        intro K lq hlq hK
        refine wanted_go (by rfl) ?_
        refine ⟨?_, fun W hW => ?_, ?_⟩
        rotate_left
        · skip
          go_simp
          with_reducible rfl
        refine hK _ ?_
        clear hK K
        (try simp only [Act.put, List.setIfInBounds_toArray, List.set_cons_zero, List.set_cons_succ])
        refine wpQuiet_step_h hlq ?_
        clear hlq lq
        intro K lq hlq hK
        refine wanted_go (by rfl) ?_
        refine ⟨.string ⟨j2.toArray⟩, fun W hW => ?_, ?_⟩
        · go_simp
          refine (join_part (k := hi) (m := 8 - hi) (E.go hW.1).2 hW.2.1.2.1 hlen8.out hlt8.out (by omega) (by omega) (by omega) (by simp) (fun h => by unfold offE; rw [if_neg (by omega)])).mono fun e W2 hc2 => ⟨by rw [hc2.1, ht2.out], hW.go hc2.2⟩
        refine hK _ ?_
        clear hK K
        (try simp only [Act.put, List.setIfInBounds_toArray, List.set_cons_zero, List.set_cons_succ])
        refine wpQuiet_step_h hlq ?_
        clear hlq lq
        intro K lq hlq hK
        refine wanted_go (by rfl) ?_
        refine ⟨.string ⟨(j1 ++ [58, 58] ++ j2).toArray⟩, fun W hW => ?_, ?_⟩
        · skip
          exact quiet_add rfl rfl rfl (ha2.out W)
        refine hK _ ?_
        clear hK K
        (try simp only [Act.put, List.setIfInBounds_toArray, List.set_cons_zero, List.set_cons_succ])
        refine wpQuiet_step_h hlq ?_
        clear hlq lq
        intro K lq hlq hK
        refine wanted_go (by rfl) ?_
        refine ⟨?_, fun W hW => ?_, ?_⟩
        rotate_left
        · skip
          go_simp
          with_reducible rfl
        refine hK _ ?_
        clear hK K
        (try simp only [Act.put, List.setIfInBounds_toArray, List.set_cons_zero, List.set_cons_succ])
        refine wpQuiet_nil_h hlq ?_
        clear hlq lq
        intro w' hC'
        go_wp2_with fail
        go_ret
        exact ⟨congrArg (fun x : List UInt8 => Ending.returned (.string ⟨x.toArray⟩)) (show j1 ++ 58 :: 58 :: j2 = groupedS a by rw [hgs2.out]; simp), hC'.1⟩
end Go.Proofs.YtnljjlaececnkaaGreatDoor
