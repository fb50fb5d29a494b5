/-
  Merged texts (XC, T, U, PB, V, Y, Z, BA, BB, BC), part 5 of 8. Conditions: each part's own, told at its head.
-/
import Derived.Test.YtnljjlaececnkaaGreatDoorBPf1
import Derived.Test.YtnljjlaececnkaaGreatDoorBPf2
import Derived.Test.YtnljjlaececnkaaGreatDoorBPf3
import Derived.Test.YtnljjlaececnkaaGreatDoorBPf4
import Derived.Lib.BytesEntry
import Derived.Laws.Externs
/-
  grouped: the text of an address of sixteen bytes in groups. Condition: the variables hold what their initialisers laid; an address is sixteen bytes.
-/
namespace Go.Proofs.YtnljjlaececnkaaGreatDoor
open Go.RowKit
set_option linter.unusedVariables false
set_option linter.unusedSimpArgs false
/-- A group of an address. -/
def gr (a : List Int) (i : Nat) : Nat := (a.getD (2 * i) 0 * 256 + a.getD (2 * i + 1) 0).toNat
def groups (a : List Int) : List Nat := (List.range 8).map (gr a)
theorem groups_len (a : List Int) : (groups a).length = 8 := by simp [groups]
theorem groups_get {a : List Int} {j : Nat} (h : j < 8) : (groups a)[j]? = some (gr a j) := by simp [groups, h]
theorem isA_getD {a : List Int} (ha : isA a) {j : Nat} (h : j < 16) : ∃ x, a[j]? = some x ∧ a.getD j 0 = x ∧ 0 ≤ x ∧ x < 256 := by
  obtain ⟨x, hx⟩ := get_some (l := a) (j := j) (by rw [ha.1]; exact h)
  exact ⟨x, hx, by rw [List.getD_eq_getElem?_getD, hx]; rfl, ha.2 x (List.mem_of_getElem? hx)⟩
theorem groups_lt {a : List Int} (ha : isA a) : ∀ u ∈ groups a, u < 65536 := by
  intro u hu
  simp [groups] at hu
  obtain ⟨i, hi, rfl⟩ := hu
  obtain ⟨x, -, hx, x0, x1⟩ := isA_getD ha (j := 2 * i) (by omega)
  obtain ⟨y, -, hy, y0, y1⟩ := isA_getD ha (j := 2 * i + 1) (by omega)
  unfold gr; rw [hx, hy]; omega
theorem or_bytes {x y : Int} (x0 : 0 ≤ x) (x1 : x < 256) (y0 : 0 ≤ y) (y1 : y < 256) : bits .or .u16 (x * 256) y = x * 256 + y := by
  have w : ∀ n : Int, 0 ≤ n → n < 2 ^ 16 → IntKind.u16.wrap n = n := fun n h0 h1 => by rw [IntKind.wrap_u16]; omega
  exact bits_join .u16 16 (by decide) w 8 (x * 256) y (by omega) (by simp) (by simp; omega) y0 (by simpa using y1) (by simp; omega)
/-- The row of groups while it is filled. -/
def grT (a : List Int) (j : Nat) : List Nat := (groups a).take j ++ List.replicate (8 - j) 0
theorem grT_len (a : List Int) {j : Nat} (h : j ≤ 8) : (grT a j).length = 8 := by simp [grT, groups_len]; omega
theorem grT_step {a : List Int} {j : Nat} (h : j < 8) : (grT a j)[j]? = some 0 ∧ (grT a j).set j (gr a j) = grT a (j + 1) := by
  have hl : ((groups a).take j).length = j := by simp [groups_len]; omega
  unfold grT
  refine ⟨?_, ?_⟩
  · rw [List.getElem?_append_right (by omega), hl, Nat.sub_self, List.getElem?_replicate, if_pos (by omega)]
  · rw [List.set_append_right _ _ (by omega), hl, Nat.sub_self, show 8 - j = (8 - (j + 1)) + 1 by omega, List.replicate_succ, List.set_cons_zero, take_snoc (groups_get h), List.append_assoc]; rfl
theorem grT_all (a : List Int) : grT a 8 = groups a := by simp [grT, groups_len, List.take_of_length_le]
theorem u16s_set (l : List Nat) (i y : Nat) : (u16s l).set i (.int .u16 (y : Int)) = u16s (l.set i y) := by simp [u16s, List.map_set]
theorem u16s_get {l : List Nat} {j u : Nat} (h : l[j]? = some u) : (u16s l)[j]? = some (.int .u16 (u : Int)) := by simp [u16s, h]
/-- grouped. -/
def groupedS (a : List Int) : List UInt8 :=
  let l := groups a; let r := runAt l 8
  if r.2 = r.1 then joinS l else joinS (l.take r.1) ++ [58, 58] ++ joinS (l.drop r.2)
theorem str_add (W : World) (l r : List UInt8) (h : l.length + r.length ≤ 9223372036854775807) : (binOp .add 9 (.string ⟨l.toArray⟩) (.string ⟨r.toArray⟩)).run Tryz.prog W = .ok (.string ⟨(l ++ r).toArray⟩) W := by
  have hs : ¬ ((⟨l.toArray⟩ : ByteArray).size + (⟨r.toArray⟩ : ByteArray).size > 9223372036854775807) := by
    show ¬ (l.toArray.size + r.toArray.size > _); simp; omega
  have he : (⟨l.toArray⟩ : ByteArray) ++ ⟨r.toArray⟩ = ⟨(l ++ r).toArray⟩ := by
    apply ByteArray.ext; simp
  rw [binOp_string_add]
  refine (run_string_add_sum (P := Tryz.prog) (w := W) ⟨l.toArray⟩ ⟨r.toArray⟩ (by omega)).trans ?_
  exact congrArg (fun s => Result.ok (Value.string s) W) he
theorem quiet_add {P : Program} {C : World → Prop} {o : Oper} {a : Act} {w : World} {r : Value} {t t' : TypeId} {x y : Operand} {b1 b2 : ByteArray} (ho : o.op = .binOp .add t x y t') (hx : a.eval x = .string b1) (hy : a.eval y = .string b2)
    (h : (binOp .add t (.string b1) (.string b2)).run P w = .ok r w) : Oper.quietAt P o a C w r := by
  unfold Oper.quietAt execOp
  simp only [ho, hx, hy, Sem.run_bind, eqGuard, Bool.not_false, if_true, Sem.run_pure, Result.andThen_ok, h]
  exact ⟨rfl, rfl⟩
def offE (k : Nat) : Nat := if k = 8 then 0 else k
theorem slice217_low (W : World) (g : Nat) {k : Nat} (hk : k ≤ 8) : (Instr.sliceAt 217 (.pointer (some ⟨g, 0, none⟩)) (some (.int .i64 (k : Int))) none none).run Tryz.prog W = .ok (.slice (some ⟨g, offE k, none⟩) (8 - k) (8 - k)) W := by
  have a16 : Tryz.prog.arrayLen 217 = 8 := by kernel_rfl
  have e5 : Tryz.prog.elem 217 = 105 := by kernel_rfl
  have hs : (sizeOf 105).run Tryz.prog W = .ok 1 W := by kernel_rfl
  have h := run_sliceAt_array_l (P := Tryz.prog) W 217 ⟨g, 0, none⟩ (by kernel_rfl) .i64 (k : Int) (by omega) (by rw [a16]; omega)
  rw [h, e5, hs, a16]
  unfold offE
  by_cases h0 : k = 8
  · subst h0; simp [Result.andThen, slicedAt]
  · have h1 : 8 ≠ k := by omega
    simp [Result.andThen, slicedAt, h0, h1, Addr.add]
    try omega
theorem slice217_high (W : World) (g : Nat) {k : Nat} (hk : k ≤ 8) : (Instr.sliceAt 217 (.pointer (some ⟨g, 0, none⟩)) none (some (.int .i64 (k : Int))) none).run Tryz.prog W = .ok (.slice (some ⟨g, 0, none⟩) k 8) W := by
  have a16 : Tryz.prog.arrayLen 217 = 8 := by kernel_rfl
  have e5 : Tryz.prog.elem 217 = 105 := by kernel_rfl
  have hs : (sizeOf 105).run Tryz.prog W = .ok 1 W := by kernel_rfl
  have h := run_sliceAt_array_h (P := Tryz.prog) W 217 ⟨g, 0, none⟩ (by kernel_rfl) .i64 (k : Int) (by omega) (by rw [a16]; omega)
  rw [h, e5, hs, a16]
  simp [Result.andThen, slicedAt, Addr.add]
theorem join_part {W : World} (E : Env W) {l : List Nat} {g k m c : Nat} {A : Option Addr} (hr : W.heap[g]? = some (oG l)) (hl : l.length = 8) (hu : ∀ u ∈ l, u < 65536) (hkm : k + m ≤ 8) (hc : m ≤ c) (hc2 : c ≤ 8) (hA : A ≠ none) (hA2 : 0 < m → A = some ⟨g, k, none⟩) :
    Calls Tryz.prog 164 #[.slice A m c] W fun e w' => e = .returned (.string ⟨(joinS ((l.drop k).take m)).toArray⟩) ∧ Below W.heap.size W w' := by
  have hlen : ((l.drop k).take m).length = m := by rw [List.length_take, List.length_drop]; omega
  refine join_any E (l := (l.drop k).take m) (by omega) (fun u h => hu u (List.mem_of_mem_drop (List.mem_of_mem_take h))) ?_
  rw [hlen]
  refine ⟨by rw [u16s_len, hlen]; omega, A, c, rfl, hc, (by unfold maxLen; omega), (fun h => absurd h hA), fun x hx hm => ⟨g, k, ?_, by have := lt_of_obj hr; omega, lt_of_obj hr, fun j u hj => ?_⟩⟩
  · rw [hA2 hm] at hx; exact (Option.some.inj hx).symm
  · have hj2 : (u16s l)[k + j]? = some u := by
      unfold u16s at hj ⊢
      rw [List.getElem?_map] at hj ⊢
      by_cases hjm : j < m
      · rwa [List.getElem?_take_of_lt hjm, List.getElem?_drop] at hj
      · rw [List.getElem?_eq_none (by omega)] at hj; cases hj
    have := row_load hr (k + j) u hj2
    rwa [Nat.zero_add] at this
set_option maxRecDepth 100000 in
set_option maxHeartbeats 1600000 in
theorem grouped_any {w : World} (E : Env w) {a : List Int} (ha : isA a) : Calls Tryz.prog 106 #[vA a] w fun e w' => e = .returned (.string ⟨(groupedS a).toArray⟩) ∧ Below w.heap.size w w' := by
  have Ha := Lib.hid ha
  clear ha
  unfold vA
  go_enter Tryz.func106, Tryz.ntmps106
  go_wp2
  go_loopw [8] (fun x wr => ∃ j : Nat, x = .int .i64 j ∧ j ≤ 8 ∧ wr.heap[w.heap.size]? = some (oA a) ∧ wr.heap[w.heap.size + 1]? = some (oG (grT a j)) ∧ Below w.heap.size w wr) (fun x wr => 8 - (intOf x).toNat)
  case atStart =>
    exact ⟨0, rfl, by omega, box21 w _ _, by rw [show grT a 0 = [0, 0, 0, 0, 0, 0, 0, 0] from by simp [grT, List.replicate]]; exact box22 w _ _, ((Below.refl _ _).alloc (Nat.le_refl _) _).alloc (by simp) _⟩
  case round =>
    obtain ⟨j, rfl, hj, hr, hr2, bel⟩ := hrel
    by_cases hlt : j < 8
    · obtain ⟨x, hx, hx2, x0, x1⟩ := isA_getD Ha.out (j := 2 * j) (by omega)
      obtain ⟨y, hy, hy2, y0, y1⟩ := isA_getD Ha.out (j := 2 * j + 1) (by omega)
      obtain ⟨m1, m2⟩ := grT_step (a := a) hlt
      have hg : ((gr a j : Nat) : Int) = x * 256 + y := by unfold gr; rw [hx2, hy2]; omega
      have hor := or_bytes x0 x1 y0 y1
      have hj8 : decide ((j : Int) < 8) = true := decide_eq_true (by omega)
      replace m2 := Lib.hid m2
      replace m1 := Lib.hid m1
      replace hx := Lib.hid hx
      replace hy := Lib.hid hy
      replace hor := Lib.hid hor
      replace hg := Lib.hid hg
      replace hr := Lib.hid hr
      replace hr2 := Lib.hid hr2
      clear hx2 hy2
      go_wp2_with fail
      refine wp_region_tail 15 (by kernel_rfl) (by kernel_rfl) ?_
      intro w2 hw2
      have row2 : w2.heap[w.heap.size + 1]? = some (oG (grT a j)) := by rw [hw2]; exact hr2.out
      have row3 : w2.heap[w.heap.size]? = some (oA a) := by rw [hw2]; exact hr.out
      have bel2 : Below w.heap.size w w2 := by rw [hw2]; exact ⟨bel.os, bel.tape, bel.output, bel.size, bel.block⟩
      clear hw2 bel hr hr2
      have c1 : w2.cell? ⟨w.heap.size, 2 * j, none⟩ = some (.int .u8 x) := (row_cell row3).trans (by rw [List.getElem?_toArray]; exact nums_get hx.out)
      have c2 : w2.cell? ⟨w.heap.size, 2 * j + 1, none⟩ = some (.int .u8 y) := (row_cell row3).trans (by rw [List.getElem?_toArray]; exact nums_get hy.out)
      have c3 : w2.cell? ⟨w.heap.size + 1, j, none⟩ = some (.int .u16 ((0 : Nat) : Int)) := (row_cell row2).trans (by rw [List.getElem?_toArray]; exact u16s_get m1.out)
      have f1 : w2.frozen? ⟨w.heap.size + 1, j, none⟩ = false := row_free row2
      have row4 := Lib.hid (row_set row2 (i := j) (cs' := (u16s (grT a (j + 1))).toArray) (.int .u16 (x * 256 + y)) (by rw [List.setIfInBounds_toArray, ← hg.out, u16s_set, m2.out]))
      have g1 : Fr (fun b => b = w.heap.size + 1) w2 (w2.setCell ⟨w.heap.size + 1, j, none⟩ (.int .u16 (x * 256 + y))) := Fr.setCell (S := fun b => b = w.heap.size + 1) (Fr.refl _ w2) (p := ⟨w.heap.size + 1, j, none⟩) (.inl rfl) _
      have row5 := Lib.hid (g1.obj row3 (by omega))
      have bel3 := bel2.trans (g1.belowS (fun b hb => by omega) bel2.size)
      replace row2 := Lib.hid row2
      replace row3 := Lib.hid row3
      simp only [List.take_succ_cons, List.take_zero, List.drop_succ_cons, List.drop_zero]
      have hw1 : IntKind.i64.wrap (2 * (j : Int)) = 2 * (j : Int) := by rw [IntKind.wrap_i64]; omega
      have hw2 : IntKind.i64.wrap (2 * (j : Int) + 1) = 2 * (j : Int) + 1 := by rw [IntKind.wrap_i64]; omega
      have hn1 : (2 * (j : Int)).toNat = 2 * j := by omega
      have hn2 : (2 * (j : Int) + 1).toNat = 2 * j + 1 := by omega
      have hi1 : (0 : Int) ≤ 2 * (j : Int) := by omega
      have hi2 : 2 * (j : Int) < 16 := by omega
      have hi3 : (0 : Int) ≤ 2 * (j : Int) + 1 := by omega
      have hi4 : 2 * (j : Int) + 1 < 16 := by omega
      repeat still_step
      have wx : IntKind.u16.wrap x = x := by rw [IntKind.wrap_u16]; omega
      have wy : IntKind.u16.wrap y = y := by rw [IntKind.wrap_u16]; omega
      have wxx : IntKind.u16.wrap (x * 256) = x * 256 := by rw [IntKind.wrap_u16]; omega
      rw [wx, wxx, wy, hor.out]
      have hi5 : (j : Int) < 8 := by omega
      repeat still_step
      refine wpStill_nil ?_
      go_wp2_with fail
      go_roundw
      case rel => exact ⟨j + 1, by go_num, by omega, row5.out, row4.out, bel3⟩
      case measure => simp [intOf]; omega
    · obtain rfl : j = 8 := by omega
      rw [grT_all] at hr2
      have hr8 : Hid (w.heap.size + 1 < wr.heap.size) := Lib.hid (lt_of_obj hr2)
      have hrun := run_any (w := wr) (groups_len a) (groups_lt Ha.out)
      have hle := runAt_le (groups a) 8 (by rw [groups_len]; decide)
      have hgs : Hid (groupedS a = if (runAt (groups a) 8).2 = (runAt (groups a) 8).1 then joinS (groups a) else joinS ((groups a).take (runAt (groups a) 8).1) ++ [58, 58] ++ joinS ((groups a).drop (runAt (groups a) 8).2)) := Lib.hid rfl
      have hlt8 := Lib.hid (groups_lt Ha.out)
      have hlen8 := Lib.hid (groups_len a)
      obtain ⟨lo, hi, hlh⟩ : ∃ lo hi, runAt (groups a) 8 = (lo, hi) := ⟨_, _, rfl⟩
      rw [hlh] at hrun hle hgs
      simp only at hrun hle hgs
      rw [groups_len] at hle
      obtain ⟨hle1, hle2⟩ := hle
      generalize hL : groups a = L at *
      have hbx : Hid (Bx w w.heap.size [(w.heap.size, oA a), (w.heap.size + 1, oG L)] wr) := Lib.hid ⟨bel, ⟨hr, hr2, trivial⟩, bel.size⟩
      replace hr := Lib.hid hr
      have lr := row_load hr2
      replace hr2 := Lib.hid hr2
      by_cases he : hi = lo
      · replace hgs := hgs.out.trans (if_pos he)
        subst he
        replace hgs := Lib.hid hgs
        go_wp2_with (first | (refine wpList_load_mid rfl 217 (.tmp 3) rfl (w.heap.size + 1) 0 rfl (u16s L) _ lr Tryz.underlying217 rfl (by rw [size217, u16s_len, hlen8.out]) ?_) | (go_at_call 165; refine hrun.mono ?_; clear hrun; rintro e w1 ⟨rfl, bel1⟩; have hbx1 := Lib.hid (hbx.out.go bel1)) | (go_at_call 164; refine (join_part (k := 0) (m := 8) (E.go hbx1.out.1).2 hbx1.out.2.1.2.1 hlen8.out hlt8.out (by omega) (by omega) (by omega) (by simp) (fun _ => rfl)).mono ?_; rintro e w2 ⟨rfl, bel2⟩))
        go_ret
        have e0 : (L.drop 0).take 8 = L := by rw [List.drop_zero, List.take_of_length_le (Nat.le_of_eq hlen8.out)]
        exact ⟨congrArg (fun x : List UInt8 => Ending.returned (.string ⟨x.toArray⟩)) (show joinS (L.take 8) = groupedS a by rw [hgs.out, ← e0, List.drop_zero, List.take_take]; rfl), hbx1.out.1.trans (bel2.mono hbx1.out.2.2)⟩
      · have hgs2 := Lib.hid (hgs.out.trans (if_neg he))
        clear hgs
        have hel : decide ((hi : Int) = lo) = false := decide_eq_false (by omega)
        go_wp2_with (first | (refine wpList_load_mid rfl 217 (.tmp 3) rfl (w.heap.size + 1) 0 rfl (u16s L) _ lr Tryz.underlying217 rfl (by rw [size217, u16s_len, hlen8.out]) ?_) | (go_at_call 165; refine hrun.mono ?_; clear hrun; rintro e w1 ⟨rfl, bel1⟩; have hbx1 := Lib.hid (hbx.out.go bel1)))
        have hs1 := fun W => slice217_high W (w.heap.size + 1) (k := lo) (by omega)
        have hs2 := fun W => slice217_low W (w.heap.size + 1) (k := hi) hle2
        obtain ⟨j1, hj1⟩ : ∃ j, joinS (L.take lo) = j := ⟨_, rfl⟩
        obtain ⟨j2, hj2⟩ : ∃ j, joinS (L.drop hi) = j := ⟨_, rfl⟩
        have hl1 : j1.length ≤ 40 := by rw [← hj1]; have := join_len (L.take lo) (fun u h => hlt8.out u (List.mem_of_mem_take h)); have := hlen8.out; rw [List.length_take] at *; omega
        have hl2 : j2.length ≤ 40 := by rw [← hj2]; have := join_len (L.drop hi) (fun u h => hlt8.out u (List.mem_of_mem_drop h)); have := hlen8.out; rw [List.length_drop] at *; omega
        have ht1 : joinS ((L.drop 0).take lo) = j1 := by rw [List.drop_zero, hj1]
        have ht2 : joinS ((L.drop hi).take (8 - hi)) = j2 := by rw [List.take_of_length_le (by rw [List.length_drop, hlen8.out]; omega), hj2]
        have ha1 := fun W => str_add W j1 [58, 58] (by simp; omega)
        have ha2 := fun W => str_add W (j1 ++ [58, 58]) j2 (by simp; omega)
        rw [hj1, hj2] at hgs2
        replace ht1 := Lib.hid ht1
        replace ht2 := Lib.hid ht2
        replace ha1 := Lib.hid ha1
        replace ha2 := Lib.hid ha2
        refine wp_region_C (C := Bx w w.heap.size [(w.heap.size, oA a), (w.heap.size + 1, oG L)]) (by kernel_rfl) (by kernel_rfl) (Bx.drew hbx1.out) ?_
        refine wpQuiet_hide ?_
        intro lq hlq
        refine wpQuiet_step_h hlq ?_
        clear hlq lq
        intro K lq hlq hK
        refine wanted_go (by rfl) ?_
        refine ⟨?_, fun W hW => ?_, ?_⟩
        rotate_left
        · skip
          go_simp
          with_reducible rfl
        refine hK _ ?_
        clear hK K
        (try simp only [Act.put, List.setIfInBounds_toArray, List.set_cons_zero, List.set_cons_succ])
        refine wpQuiet_step_h hlq ?_
        clear hlq lq
        intro K lq hlq hK
        refine wanted_go (by rfl) ?_
        refine ⟨?_, fun W hW => ?_, ?_⟩
        rotate_left
        · skip
          go_simp
          with_reducible rfl
        refine hK _ ?_
        clear hK K
        (try simp only [Act.put, List.setIfInBounds_toArray, List.set_cons_zero, List.set_cons_succ])
        refine wpQuiet_step_h hlq ?_
        clear hlq lq
        intro K lq hlq hK
        refine wanted_go (by rfl) ?_
        refine ⟨?_, fun W hW => ?_, ?_⟩
        rotate_left
        · skip
          go_simp
          with_reducible rfl
        refine hK _ ?_
        clear hK K
        (try simp only [Act.put, List.setIfInBounds_toArray, List.set_cons_zero, List.set_cons_succ])
        refine wpQuiet_step_h hlq ?_
        clear hlq lq
        intro K lq hlq hK
        refine wanted_go (by rfl) ?_
        refine ⟨.string ⟨j1.toArray⟩, fun W hW => ?_, ?_⟩
        · go_simp
          refine (join_part (k := 0) (m := lo) (E.go hW.1).2 hW.2.1.2.1 hlen8.out hlt8.out (by omega) (by omega) (by omega) (by simp) (fun _ => rfl)).mono fun e W2 hc2 => ⟨by rw [hc2.1, ht1.out], hW.go hc2.2⟩
        refine hK _ ?_
        clear hK K
        (try simp only [Act.put, List.setIfInBounds_toArray, List.set_cons_zero, List.set_cons_succ])
        refine wpQuiet_step_h hlq ?_
        clear hlq lq
        intro K lq hlq hK
        refine wanted_go (by rfl) ?_
        refine ⟨.string ⟨(j1 ++ [58, 58]).toArray⟩, fun W hW => ?_, ?_⟩
        · skip
          exact quiet_add rfl rfl rfl (ha1.out W)
        refine hK _ ?_
        clear hK K
        (try simp only [Act.put, List.setIfInBounds_toArray, List.set_cons_zero, List.set_cons_succ])
        refine wpQuiet_step_h hlq ?_
        clear hlq lq
        intro K lq hlq hK
        refine wanted_go (by rfl) ?_
        refine ⟨?_, fun W hW => ?_, ?_⟩
        rotate_left
        · skip
          go_simp
          with_reducible rfl
        refine hK _ ?_
        clear hK K
        (try simp only [Act.put, List.setIfInBounds_toArray, List.set_cons_zero, List.set_cons_succ])
        refine wpQuiet_step_h hlq ?_
        clear hlq lq
        intro K lq hlq hK
        refine wanted_go (by rfl) ?_
        refine ⟨?_, fun W hW => ?_, ?_⟩
        rotate_left
        · skip
          go_simp
          with_reducible rfl
        refine hK _ ?_
        clear hK K
        (try simp only [Act.put, List.setIfInBounds_toArray, List.set_cons_zero, List.set_cons_succ])
        refine wpQuiet_step_h hlq ?_
        clear hlq lq
        intro K lq hlq hK
        refine wanted_go (by rfl) ?_
        refine ⟨?_, fun W hW => ?_, ?_⟩
        rotate_left
        · skip
          go_simp
          with_reducible rfl
        refine hK _ ?_
        clear hK K
        (try simp only [Act.put, List.setIfInBounds_toArray, List.set_cons_zero, List.set_cons_succ])
        refine wpQuiet_step_h hlq ?_
        clear hlq lq
        intro K lq hlq hK
        refine wanted_go (by rfl) ?_
        refine ⟨.string ⟨j2.toArray⟩, fun W hW => ?_, ?_⟩
        · go_simp
          refine (join_part (k := hi) (m := 8 - hi) (E.go hW.1).2 hW.2.1.2.1 hlen8.out hlt8.out (by omega) (by omega) (by omega) (by simp) (fun h => by unfold offE; rw [if_neg (by omega)])).mono fun e W2 hc2 => ⟨by rw [hc2.1, ht2.out], hW.go hc2.2⟩
        refine hK _ ?_
        clear hK K
        (try simp only [Act.put, List.setIfInBounds_toArray, List.set_cons_zero, List.set_cons_succ])
        refine wpQuiet_step_h hlq ?_
        clear hlq lq
        intro K lq hlq hK
        refine wanted_go (by rfl) ?_
        refine ⟨.string ⟨(j1 ++ [58, 58] ++ j2).toArray⟩, fun W hW => ?_, ?_⟩
        · skip
          exact quiet_add rfl rfl rfl (ha2.out W)
        refine hK _ ?_
        clear hK K
        (try simp only [Act.put, List.setIfInBounds_toArray, List.set_cons_zero, List.set_cons_succ])
        refine wpQuiet_step_h hlq ?_
        clear hlq lq
        intro K lq hlq hK
        refine wanted_go (by rfl) ?_
        refine ⟨?_, fun W hW => ?_, ?_⟩
        rotate_left
        · skip
          go_simp
          with_reducible rfl
        refine hK _ ?_
        clear hK K
        (try simp only [Act.put, List.setIfInBounds_toArray, List.set_cons_zero, List.set_cons_succ])
        refine wpQuiet_nil_h hlq ?_
        clear hlq lq
        intro w' hC'
        go_wp2_with fail
        go_ret
        exact ⟨congrArg (fun x : List UInt8 => Ending.returned (.string ⟨x.toArray⟩)) (show j1 ++ 58 :: 58 :: j2 = groupedS a by rw [hgs2.out]; simp), hC'.1⟩
end Go.Proofs.YtnljjlaececnkaaGreatDoor
/-
  ParsePrefix. Condition: the variables hold what their initialisers laid; a text is no longer than memory has room for.
-/
namespace Go.Proofs.YtnljjlaececnkaaGreatDoor
open Go.RowKit
set_option linter.unusedVariables false
set_option linter.unusedSimpArgs false
theorem sixteen {a : List Int} (h : a.length = 16) : ∃ x0 x1 x2 x3 x4 x5 x6 x7 x8 x9 x10 x11 x12 x13 x14 x15, a = [x0, x1, x2, x3, x4, x5, x6, x7, x8, x9, x10, x11, x12, x13, x14, x15] := by
  match a, h with
  | [x0, x1, x2, x3, x4, x5, x6, x7, x8, x9, x10, x11, x12, x13, x14, x15], _ => exact ⟨x0, x1, x2, x3, x4, x5, x6, x7, x8, x9, x10, x11, x12, x13, x14, x15, rfl⟩
set_option maxRecDepth 100000 in
theorem built55 {a : List Int} {n : Int} (ha : isA a) : Tryz.prog.built 55 [(0, .agg (nums .u8 a).toArray), (1, .int .i64 n)] = some (pCs a n).toArray := by
  obtain ⟨x0, x1, x2, x3, x4, x5, x6, x7, x8, x9, x10, x11, x12, x13, x14, x15, rfl⟩ := sixteen ha.1
  kernel_rfl
set_option maxRecDepth 100000 in
theorem built57 {p q : Pf} (hp : isA p.a) (hq : isA q.a) : Tryz.prog.built 57 [(0, vPf p), (1, vPf q)] = some (pCs p.a p.n ++ pCs q.a q.n).toArray := by
  obtain ⟨a, n⟩ := p
  obtain ⟨b, m⟩ := q
  obtain ⟨x0, x1, x2, x3, x4, x5, x6, x7, x8, x9, x10, x11, x12, x13, x14, x15, rfl⟩ := sixteen hp.1
  obtain ⟨y0, y1, y2, y3, y4, y5, y6, y7, y8, y9, y10, y11, y12, y13, y14, y15, rfl⟩ := sixteen hq.1
  kernel_rfl
theorem wpList_build_is {P : Program} {ops : Array Oper} {rest : List Oper} {o : Oper} {a : Act} {w : World} {Q : Exit → Act → World → Prop} (hg : o.guard = none) (t : TypeId) (parts : Array (Nat × Operand)) (ho : o.op = .build t parts) {cells : Array Value}
    (h : P.built t (parts.map fun (i, x) => (i, a.eval x)).toList = some cells) (hK : wpList P ops Q rest (a.put o.dst (.agg cells)) w) : wpList P ops Q (o :: rest) a w :=
  wpList_build hg t parts ho (by rw [h]; rfl) (by rw [h]; exact hK)
theorem decS_rng {s : ByteArray} {v : Int} (h : decS s 3 = some v) : 0 ≤ v ∧ v ≤ 999 := by
  unfold decS at h
  split at h
  · split at h
    · rename_i hc
      cases h
      obtain ⟨h1, h2, h3⟩ := hc
      refine ⟨h3, ?_⟩
      have hl : (Lib.itoa v).length = s.size := by rw [h2]; exact Array.length_toList
      unfold Lib.itoa at hl
      rw [if_neg (by omega)] at hl
      rw [Lib.decDigits_length] at hl
      have h4 := Lib.lt_pow_nDigits v.toNat
      have h5 : 10 ^ Lib.nDigits v.toNat ≤ 10 ^ 3 := Nat.pow_le_pow_right (by decide) (by omega)
      omega
    · cases h
  · cases h
theorem dec_is {w : World} (E : Env w) {t : ByteArray} {v : Int} (hs : t.size ≤ 140737488351232) (h : decS t 3 = some v) : Calls Tryz.prog 124 #[.string t, .int .i64 3] w fun e w' => e = .returned (.tuple #[.int .i64 v, .bool true]) ∧ Below w.heap.size w w' :=
  (dec_any E t hs 3).mono fun e w' ⟨⟨n, b, he, hb, hv⟩, bel⟩ => ⟨by rw [he, hb, hv v h, h]; rfl, bel⟩
theorem dec_isnt {w : World} (E : Env w) {t : ByteArray} (hs : t.size ≤ 140737488351232) (h : decS t 3 = none) : Calls Tryz.prog 124 #[.string t, .int .i64 3] w fun e w' => (∃ n, e = .returned (.tuple #[.int .i64 n, .bool false])) ∧ Below w.heap.size w w' :=
  (dec_any E t hs 3).mono fun e w' ⟨⟨n, b, he, hb, hv⟩, bel⟩ => ⟨⟨n, by rw [he, hb, h]; rfl⟩, bel⟩
theorem check_yes {w : World} {p : Pf} (hp : p.ok) (h : chk p = true) : Calls Tryz.prog 38 #[.agg (pCs p.a p.n).toArray] w fun e w' => e = .returned (.int .i64 0) ∧ Below w.heap.size w w' :=
  (check_any hp).mono fun e w' he => ⟨by rw [he.1, h]; rfl, he.2⟩
theorem check_nope {w : World} {p : Pf} (hp : p.ok) (h : chk p = false) : Calls Tryz.prog 38 #[.agg (pCs p.a p.n).toArray] w fun e w' => e = .returned (.int .i64 21) ∧ Below w.heap.size w w' :=
  (check_any hp).mono fun e w' he => ⟨by rw [he.1, h]; rfl, he.2⟩
theorem AllB.alloc {W : World} {l : List (Nat × Obj)} (h : AllB W l) (o : Obj) : AllB (W.alloc o) l := AllB.go ((Below.refl W.heap.size W).alloc (Nat.le_refl _) o) h
theorem Bx.alloc {w W : World} {N : Nat} {l : List (Nat × Obj)} (h : Bx w N l W) (o : Obj) : Bx w N ((W.heap.size, o) :: l) (W.alloc o) :=
  ⟨h.1.alloc h.2.2 o, ⟨box1 W o, h.2.1.alloc o⟩, by have := h.2.2; simp; omega⟩
theorem AllB.setRow {W : World} {g : Nat} {cs : Array Value} : ∀ {l : List (Nat × Obj)}, AllB W l → (∀ x ∈ l, x.1 ≠ g) → AllB (W.setRow g cs) l
  | [], _, _ => trivial
  | x :: l, ⟨h, r⟩, hn => ⟨by rw [setRow_other _ _ _ _ (hn x (by simp))]; exact h, AllB.setRow r (fun y hy => hn y (by simp [hy]))⟩
theorem Bx.set1 {w W : World} {N g : Nat} {l : List (Nat × Obj)} {old : Array Value} {t : TypeId} (h : Bx w N ((g, .cells old t (0, 0)) :: l) W) (cs : Array Value) (hN : N ≤ g) (hn : ∀ x ∈ l, x.1 ≠ g) : Bx w N ((g, .cells cs t (0, 0)) :: l) (W.setRow g cs) :=
  ⟨below_row h.1 hN cs, ⟨setRow_heap _ _ _ _ _ _ h.2.1.1, h.2.1.2.setRow hn⟩, by rw [setRow_size]; exact h.2.2⟩
theorem quiet_build {P : Program} {C : World → Prop} {o : Oper} {a : Act} {w : World} (t : TypeId) (parts : Array (Nat × Operand)) (ho : o.op = .build t parts) {cells : Array Value} (h : P.built t (parts.map fun (i, x) => (i, a.eval x)).toList = some cells) : Oper.quietAt P o a C w (.agg cells) := by
  unfold Oper.quietAt execOp
  simp only [ho, Sem.run_bind, run_build w t _ cells h, Sem.run_pure, Result.andThen_ok]
  exact ⟨rfl, rfl⟩
theorem wpList_store_at {P : Program} {ops : Array Oper} {rest : List Oper} {o : Oper} {a : Act} {w : World} {Q : Exit → Act → World → Prop} (hgd : o.guard = none) (ty : TypeId) (x y : Operand) (ho : o.op = .store ty x y) (g : Nat) (hg : w.heap.size = g)
    {cells old : Array Value} {t : TypeId} (hx : a.eval x = .pointer (some ⟨g, 0, none⟩)) (hy : a.eval y = .agg cells) (hi : (P.info? ty).map (·.size) = some cells.size) (hold : old.size = cells.size) (h1 : cells.all (·.oneCell') = true)
    (h : wpList P ops Q rest (a.put o.dst undef) (w.alloc (.cells cells t))) : wpList P ops Q (o :: rest) a (w.alloc (.cells old t)) := by
  subst hg
  exact wpList_store_new hgd ty x y ho hx hy hi hold h1 h
def PPR (s : ByteArray) (e : Ending) : Prop := e = .returned (.tuple #[vPf (parsePS s).1, .int .i64 (parsePS s).2])
theorem zeroP_ok : zeroP.ok := ⟨zeroA_ok, rfl⟩
set_option maxRecDepth 100000 in
set_option maxHeartbeats 1600000 in
theorem pp_dq {w : World} (E : Env w) {s : ByteArray} (hs : s.size < 4294967281) {L R : ByteArray} {g : Bool} (hL : L.size ≤ s.size) (hR : R.size ≤ s.size) (hcut : ∀ {w : World}, Env w → Calls Tryz.prog 123 #[.string s, .string ⟨#[47]⟩] w fun e w' => e = .returned (.tuple #[.string L, .string R, .bool g]) ∧ Below w.heap.size w w') (hres : parsePS s = (zeroP, 20)) (hd : decS R 3 = none) {a : List Int} (ok : isA a) (hq : okA (quadS L) = a ∧ (quadS L).isSome = true) : Calls Tryz.prog 56 #[.string s] w fun e w' => PPR s e ∧ Below w.heap.size w w' := by
  have B0 := Bx.start1 w (oP zeroP)
  have E0 := (E.go B0.1).2
  replace hres := Lib.hid hres
  go_enter Tryz.func56, Tryz.ntmps56
  go_wp2_with (first
    | (go_at_call 123; refine (hcut E0).mono ?_; rintro e w1 ⟨rfl, bel⟩; have E1 := (E0.go bel).2; have B1 := B0.go bel; clear bel)
    | (go_at_call 124; refine (dec_isnt E1 (by omega) hd).mono ?_; rintro e w2 ⟨⟨n, rfl⟩, bel⟩; have E2 := (E1.go bel).2; have B2 := B1.go bel; clear bel)
    | (go_at_call 101; refine (quad_is E2 (by omega) hq).mono ?_; rintro e w3 ⟨rfl, bel⟩; have E3 := (E2.go bel).2; have LT3 := lt_of_obj (B2.go bel).2.1.1; have B3 := (B2.go bel).alloc (oA a); have E4 := (E3.go ((Below.refl w3.heap.size w3).alloc (Nat.le_refl _) (oA a))).2; clear bel)
    | (refine wpList_store_new rfl 42 (.tmp 10) (.tmp 28) rfl rfl rfl (info42 ok) (by rw [sizeA ok] <;> rfl) (numsA_one _) ?_)
    | (refine wpList_store_row rfl 55 (.tmp 2) (.tmp 43) rfl w.heap.size (pCs zeroA 0).toArray rfl rfl 55 (pCs zeroA 0).toArray B3.2.1.2.1 (info55 zeroA_ok _) rfl (pCs_one _ _) ?_))
  refine bodyPost_ret (v := .tuple #[vPf zeroP, .int .i64 20]) ?_ rfl ⟨by unfold PPR; rw [hres.out] <;> rfl, below_row B3.1 (Nat.le_refl _) _⟩
  exact results_cell_tmp rfl _ _ rfl (BoxP.run (p := zeroP) (setRow_heap _ _ _ _ _ _ B3.2.1.2.1) zeroA_ok).2.2 rfl
set_option maxRecDepth 100000 in
set_option maxHeartbeats 1600000 in
theorem pp_dc {w : World} (E : Env w) {s : ByteArray} (hs : s.size < 4294967281) {L R : ByteArray} {g : Bool} (hL : L.size ≤ s.size) (hR : R.size ≤ s.size) (hcut : ∀ {w : World}, Env w → Calls Tryz.prog 123 #[.string s, .string ⟨#[47]⟩] w fun e w' => e = .returned (.tuple #[.string L, .string R, .bool g]) ∧ Below w.heap.size w w') (hres : parsePS s = (zeroP, 20)) (hd : decS R 3 = none) (hq : okA (quadS L) = zeroA ∧ (quadS L).isSome = false) {a : List Int} (ok : isA a) (hcol : okA (colS L) = a ∧ (colS L).isSome = true) : Calls Tryz.prog 56 #[.string s] w fun e w' => PPR s e ∧ Below w.heap.size w w' := by
  have B0 := Bx.start1 w (oP zeroP)
  have E0 := (E.go B0.1).2
  replace hres := Lib.hid hres
  go_enter Tryz.func56, Tryz.ntmps56
  go_wp2_with (first
    | (go_at_call 123; refine (hcut E0).mono ?_; rintro e w1 ⟨rfl, bel⟩; have E1 := (E0.go bel).2; have B1 := B0.go bel; clear bel)
    | (go_at_call 124; refine (dec_isnt E1 (by omega) hd).mono ?_; rintro e w2 ⟨⟨n, rfl⟩, bel⟩; have E2 := (E1.go bel).2; have B2 := B1.go bel; clear bel)
    | (go_at_call 101; refine (quad_is E2 (by omega) hq).mono ?_; rintro e w3 ⟨rfl, bel⟩; have E3 := (E2.go bel).2; have LT3 := lt_of_obj (B2.go bel).2.1.1; have B3 := (B2.go bel).alloc (oA zeroA); have E4 := (E3.go ((Below.refl w3.heap.size w3).alloc (Nat.le_refl _) (oA zeroA))).2; clear bel)
    | (refine wpList_store_new rfl 42 (.tmp 10) (.tmp 28) rfl rfl rfl (info42 zeroA_ok) (by rw [sizeA zeroA_ok] <;> rfl) (numsA_one _) ?_)
    | (go_at_call 102; refine (col_is E4 (by omega) hcol).mono ?_; rintro e w4 ⟨rfl, bel⟩; have B4 := B3.go bel; have B5 := B4.set1 (nums .u8 a).toArray (Nat.le_of_lt LT3) (by intro x hx; simp at hx; subst hx; exact Nat.ne_of_lt LT3); clear bel)
    | (refine wpList_store_row rfl 42 (.tmp 10) (.tmp 35) rfl w3.heap.size _ rfl rfl 42 (nums .u8 zeroA).toArray B4.2.1.1 (info42 ok) (by rw [sizeA zeroA_ok, sizeA ok]) (numsA_one _) ?_)
    | (refine wpList_store_row rfl 55 (.tmp 2) (.tmp 43) rfl w.heap.size (pCs zeroA 0).toArray rfl rfl 55 (pCs zeroA 0).toArray B5.2.1.2.1 (info55 zeroA_ok _) rfl (pCs_one _ _) ?_))
  refine bodyPost_ret (v := .tuple #[vPf zeroP, .int .i64 20]) ?_ rfl ⟨by unfold PPR; rw [hres.out] <;> rfl, below_row B5.1 (Nat.le_refl _) _⟩
  exact results_cell_tmp rfl _ _ rfl (BoxP.run (p := zeroP) (setRow_heap _ _ _ _ _ _ B5.2.1.2.1) zeroA_ok).2.2 rfl
set_option maxRecDepth 100000 in
set_option maxHeartbeats 1600000 in
theorem pp_dn {w : World} (E : Env w) {s : ByteArray} (hs : s.size < 4294967281) {L R : ByteArray} {g : Bool} (hL : L.size ≤ s.size) (hR : R.size ≤ s.size) (hcut : ∀ {w : World}, Env w → Calls Tryz.prog 123 #[.string s, .string ⟨#[47]⟩] w fun e w' => e = .returned (.tuple #[.string L, .string R, .bool g]) ∧ Below w.heap.size w w') (hres : parsePS s = (zeroP, 20)) (hd : decS R 3 = none) (hq : okA (quadS L) = zeroA ∧ (quadS L).isSome = false) (hcol : okA (colS L) = zeroA ∧ (colS L).isSome = false) : Calls Tryz.prog 56 #[.string s] w fun e w' => PPR s e ∧ Below w.heap.size w w' := by
  have B0 := Bx.start1 w (oP zeroP)
  have E0 := (E.go B0.1).2
  replace hres := Lib.hid hres
  go_enter Tryz.func56, Tryz.ntmps56
  go_wp2_with (first
    | (go_at_call 123; refine (hcut E0).mono ?_; rintro e w1 ⟨rfl, bel⟩; have E1 := (E0.go bel).2; have B1 := B0.go bel; clear bel)
    | (go_at_call 124; refine (dec_isnt E1 (by omega) hd).mono ?_; rintro e w2 ⟨⟨n, rfl⟩, bel⟩; have E2 := (E1.go bel).2; have B2 := B1.go bel; clear bel)
    | (go_at_call 101; refine (quad_is E2 (by omega) hq).mono ?_; rintro e w3 ⟨rfl, bel⟩; have E3 := (E2.go bel).2; have LT3 := lt_of_obj (B2.go bel).2.1.1; have B3 := (B2.go bel).alloc (oA zeroA); have E4 := (E3.go ((Below.refl w3.heap.size w3).alloc (Nat.le_refl _) (oA zeroA))).2; clear bel)
    | (refine wpList_store_new rfl 42 (.tmp 10) (.tmp 28) rfl rfl rfl (info42 zeroA_ok) (by rw [sizeA zeroA_ok] <;> rfl) (numsA_one _) ?_)
    | (go_at_call 102; refine (col_is E4 (by omega) hcol).mono ?_; rintro e w4 ⟨rfl, bel⟩; have B4 := B3.go bel; have B5 := B4.set1 (nums .u8 zeroA).toArray (Nat.le_of_lt LT3) (by intro x hx; simp at hx; subst hx; exact Nat.ne_of_lt LT3); clear bel)
    | (refine wpList_store_row rfl 42 (.tmp 10) (.tmp 35) rfl w3.heap.size _ rfl rfl 42 (nums .u8 zeroA).toArray B4.2.1.1 (info42 zeroA_ok) (rfl) (numsA_one _) ?_)
    | (refine wpList_store_row rfl 55 (.tmp 2) (.tmp 43) rfl w.heap.size (pCs zeroA 0).toArray rfl rfl 55 (pCs zeroA 0).toArray B5.2.1.2.1 (info55 zeroA_ok _) rfl (pCs_one _ _) ?_))
  refine bodyPost_ret (v := .tuple #[vPf zeroP, .int .i64 20]) ?_ rfl ⟨by unfold PPR; rw [hres.out] <;> rfl, below_row B5.1 (Nat.le_refl _) _⟩
  exact results_cell_tmp rfl _ _ rfl (BoxP.run (p := zeroP) (setRow_heap _ _ _ _ _ _ B5.2.1.2.1) zeroA_ok).2.2 rfl
set_option maxRecDepth 100000 in
set_option maxHeartbeats 1600000 in
theorem pp_n {w : World} (E : Env w) {s : ByteArray} (hs : s.size < 4294967281) {L R : ByteArray} {g : Bool} (hL : L.size ≤ s.size) (hR : R.size ≤ s.size) (hcut : ∀ {w : World}, Env w → Calls Tryz.prog 123 #[.string s, .string ⟨#[47]⟩] w fun e w' => e = .returned (.tuple #[.string L, .string R, .bool g]) ∧ Below w.heap.size w w') (hres : parsePS s = (zeroP, 20)) {n : Int} (hd : decS R 3 = some n) (hq : okA (quadS L) = zeroA ∧ (quadS L).isSome = false) (hcol : okA (colS L) = zeroA ∧ (colS L).isSome = false) : Calls Tryz.prog 56 #[.string s] w fun e w' => PPR s e ∧ Below w.heap.size w w' := by
  have B0 := Bx.start1 w (oP zeroP)
  have E0 := (E.go B0.1).2
  replace hres := Lib.hid hres
  go_enter Tryz.func56, Tryz.ntmps56
  go_wp2_with (first
    | (go_at_call 123; refine (hcut E0).mono ?_; rintro e w1 ⟨rfl, bel⟩; have E1 := (E0.go bel).2; have B1 := B0.go bel; clear bel)
    | (go_at_call 124; refine (dec_is E1 (by omega) hd).mono ?_; rintro e w2 ⟨rfl, bel⟩; have E2 := (E1.go bel).2; have B2 := B1.go bel; clear bel)
    | (go_at_call 101; refine (quad_is E2 (by omega) hq).mono ?_; rintro e w3 ⟨rfl, bel⟩; have E3 := (E2.go bel).2; have LT3 := lt_of_obj (B2.go bel).2.1.1; have B3 := (B2.go bel).alloc (oA zeroA); have E4 := (E3.go ((Below.refl w3.heap.size w3).alloc (Nat.le_refl _) (oA zeroA))).2; clear bel)
    | (refine wpList_store_new rfl 42 (.tmp 10) (.tmp 28) rfl rfl rfl (info42 zeroA_ok) (by rw [sizeA zeroA_ok] <;> rfl) (numsA_one _) ?_)
    | (go_at_call 102; refine (col_is E4 (by omega) hcol).mono ?_; rintro e w4 ⟨rfl, bel⟩; have B4 := B3.go bel; have B5 := B4.set1 (nums .u8 zeroA).toArray (Nat.le_of_lt LT3) (by intro x hx; simp at hx; subst hx; exact Nat.ne_of_lt LT3); clear bel)
    | (refine wpList_store_row rfl 42 (.tmp 10) (.tmp 35) rfl w3.heap.size _ rfl rfl 42 (nums .u8 zeroA).toArray B4.2.1.1 (info42 zeroA_ok) (rfl) (numsA_one _) ?_)
    | (refine wpList_store_row rfl 55 (.tmp 2) (.tmp 43) rfl w.heap.size (pCs zeroA 0).toArray rfl rfl 55 (pCs zeroA 0).toArray B5.2.1.2.1 (info55 zeroA_ok _) rfl (pCs_one _ _) ?_))
  refine bodyPost_ret (v := .tuple #[vPf zeroP, .int .i64 20]) ?_ rfl ⟨by unfold PPR; rw [hres.out] <;> rfl, below_row B5.1 (Nat.le_refl _) _⟩
  exact results_cell_tmp rfl _ _ rfl (BoxP.run (p := zeroP) (setRow_heap _ _ _ _ _ _ B5.2.1.2.1) zeroA_ok).2.2 rfl
end Go.Proofs.YtnljjlaececnkaaGreatDoor
/-
  ParsePrefix, where there is a prefix. Condition: the variables hold what their initialisers laid; a text is no longer than memory has room for.
-/
namespace Go.Proofs.YtnljjlaececnkaaGreatDoor
open Go.RowKit
set_option linter.unusedVariables false
set_option linter.unusedSimpArgs false
theorem quiet_build2 {P : Program} {C : World → Prop} {o : Oper} {a : Act} {w : World} {t : TypeId} {i j : Nat} {x y : Operand} {vx vy : Value} (ho : o.op = .build t #[(i, x), (j, y)]) (hx : a.eval x = vx) (hy : a.eval y = vy) {cells : Array Value} (h : P.built t [(i, vx), (j, vy)] = some cells) : Oper.quietAt P o a C w (.agg cells) := by
  have hr := run_build w t #[(i, vx), (j, vy)] cells h
  unfold Oper.quietAt execOp
  simp only [ho, List.map_toArray, List.map_cons, List.map_nil, hx, hy, Sem.run_bind, hr, Sem.run_pure, Result.andThen_ok]
  exact ⟨rfl, rfl⟩
set_option maxRecDepth 100000 in
set_option maxHeartbeats 1600000 in
theorem pp_qy {w : World} (E : Env w) {s : ByteArray} (hs : s.size < 4294967281) {L R : ByteArray} {g : Bool} (hL : L.size ≤ s.size) (hR : R.size ≤ s.size) (hcut : ∀ {w : World}, Env w → Calls Tryz.prog 123 #[.string s, .string ⟨#[47]⟩] w fun e w' => e = .returned (.tuple #[.string L, .string R, .bool g]) ∧ Below w.heap.size w w') {n : Int} (hd : decS R 3 = some n) {a : List Int} (ok : isA a) (hq : okA (quadS L) = a ∧ (quadS L).isSome = true) (hpok : (⟨a, 96 + n⟩ : Pf).ok) (hres : parsePS s = (⟨a, 96 + n⟩, 0)) (hk : chk ⟨a, 96 + n⟩ = true) : Calls Tryz.prog 56 #[.string s] w fun e w' => PPR s e ∧ Below w.heap.size w w' := by
  have B0 := Bx.start1 w (oP zeroP)
  have E0 := (E.go B0.1).2
  replace hres := Lib.hid hres
  have hb := i64_of_wf hpok.2
  have hn := decS_rng hd
  have hwr : IntKind.i64.wrap (96 + n) = 96 + n := IntWalk.i64_in _ (by omega)
  go_enter Tryz.func56, Tryz.ntmps56
  go_wp2_with (first
    | (go_at_call 123; refine (hcut E0).mono ?_; rintro e w1 ⟨rfl, bel⟩; have E1 := (E0.go bel).2; have B1 := B0.go bel; clear bel)
    | (go_at_call 124; refine (dec_is E1 (by omega) hd).mono ?_; rintro e w2 ⟨rfl, bel⟩; have E2 := (E1.go bel).2; have B2 := B1.go bel; clear bel)
    | (go_at_call 101; refine (quad_is E2 (by omega) hq).mono ?_; rintro e w3 ⟨rfl, bel⟩; have E3 := (E2.go bel).2; have LT3 := lt_of_obj (B2.go bel).2.1.1; have B3 := (B2.go bel).alloc (oA a); have E4 := (E3.go ((Below.refl w3.heap.size w3).alloc (Nat.le_refl _) (oA a))).2; clear bel)
    | (refine wpList_store_new rfl 42 (.tmp 10) (.tmp 28) rfl rfl rfl (info42 ok) (by rw [sizeA ok] <;> rfl) (numsA_one _) ?_)
    | (refine wpList_quiet_take (C := Bx w w.heap.size [(w3.heap.size, oA a), (w.heap.size, oP zeroP)]) 7 5 (by rfl) B3 ?_))
  (try simp only [List.take_succ_cons, List.take_zero, List.drop_succ_cons, List.drop_zero])
  refine wpQuiet_hide ?_
  intro lq hlq
  refine wpQuiet_step_h hlq ?_
  clear hlq lq
  intro K lq hlq hK
  refine wanted_go (by rfl) ?_
  refine ⟨vA a, fun W hW => ?_, ?_⟩
  · have q := BoxA.run hW.2.1.1 ok
    exact quiet_load 42 _ rfl rfl q
  refine hK _ ?_
  clear hK K
  (try simp only [Act.put, List.setIfInBounds_toArray, List.set_cons_zero, List.set_cons_succ])
  refine wpQuiet_step_h hlq ?_
  clear hlq lq
  intro K lq hlq hK
  refine wanted_go (by rfl) ?_
  refine ⟨?_, fun W hW => ?_, ?_⟩
  rotate_left
  · have q := BoxA.run hW.2.1.1 ok
    go_simp
    with_reducible rfl
  refine hK _ ?_
  clear hK K
  (try simp only [Act.put, List.setIfInBounds_toArray, List.set_cons_zero, List.set_cons_succ])
  refine wpQuiet_step_h hlq ?_
  clear hlq lq
  intro K lq hlq hK
  refine wanted_go (by rfl) ?_
  refine ⟨?_, fun W hW => ?_, ?_⟩
  rotate_left
  · have q := BoxA.run hW.2.1.1 ok
    go_simp
    with_reducible rfl
  refine hK _ ?_
  clear hK K
  (try simp only [Act.put, List.setIfInBounds_toArray, List.set_cons_zero, List.set_cons_succ])
  refine wpQuiet_step_h hlq ?_
  clear hlq lq
  intro K lq hlq hK
  refine wanted_go (by rfl) ?_
  refine ⟨?_, fun W hW => ?_, ?_⟩
  rotate_left
  · have q := BoxA.run hW.2.1.1 ok
    go_simp
    with_reducible rfl
  refine hK _ ?_
  clear hK K
  (try simp only [Act.put, List.setIfInBounds_toArray, List.set_cons_zero, List.set_cons_succ])
  refine wpQuiet_step_h hlq ?_
  clear hlq lq
  intro K lq hlq hK
  refine wanted_go (by rfl) ?_
  refine ⟨.agg (pCs a (96 + n)).toArray, fun W hW => ?_, ?_⟩
  · have q := BoxA.run hW.2.1.1 ok
    exact quiet_build2 (x := .tmp 44) (y := .tmp 47) (vx := .agg (nums .u8 a).toArray) (vy := .int .i64 (96 + n)) rfl rfl rfl (built55 (a := a) (n := 96 + n) ok)
  refine hK _ ?_
  clear hK K
  (try simp only [Act.put, List.setIfInBounds_toArray, List.set_cons_zero, List.set_cons_succ])
  refine wpQuiet_nil_h hlq ?_
  clear hlq lq
  intro W5 B7
  have BP := B7.alloc (oP ⟨a, 96 + n⟩)
  go_wp2_with (first
    | (refine wpList_store_new rfl 55 (.tmp 12) (.tmp 48) rfl rfl rfl (info55 ok _) (by rw [pCs_size ok] <;> rfl) (pCs_one _ _) ?_)
    | (refine wpList_load_mid rfl 55 (.tmp 12) rfl W5.heap.size 0 rfl (pCs a (96 + n)) _ (row_load BP.2.1.1) Tryz.underlying55 rfl (info55 ok _) ?_)
    | (go_at_call 38; refine (check_yes hpok hk).mono ?_; clear hk; rintro e w6 ⟨rfl, bel⟩; have B6 := BP.go bel; clear bel)
    | (refine wpList_load_mid rfl 55 (.tmp 12) rfl (W5.heap.size) 0 rfl (pCs a (96 + n)) _ (row_load B6.2.1.1) Tryz.underlying55 rfl (info55 ok _) ?_)
    | (refine wpList_store_row rfl 55 (.tmp 2) (.tmp 55) rfl w.heap.size _ rfl rfl 55 (pCs zeroA 0).toArray B6.2.1.2.2.1 (info55 ok _) (by rw [pCs_size zeroA_ok, pCs_size ok]) (pCs_one _ _) ?_))
  refine bodyPost_ret (v := .tuple #[vPf ⟨a, 96 + n⟩, .int .i64 0]) ?_ rfl ⟨by unfold PPR; rw [hres.out] <;> rfl, below_row B6.1 (Nat.le_refl _) _⟩
  exact results_cell_tmp rfl _ _ rfl (BoxP.run (p := ⟨a, 96 + n⟩) (setRow_heap _ _ _ _ _ _ B6.2.1.2.2.1) ok).2.2 rfl
set_option maxRecDepth 100000 in
set_option maxHeartbeats 1600000 in
theorem pp_qn {w : World} (E : Env w) {s : ByteArray} (hs : s.size < 4294967281) {L R : ByteArray} {g : Bool} (hL : L.size ≤ s.size) (hR : R.size ≤ s.size) (hcut : ∀ {w : World}, Env w → Calls Tryz.prog 123 #[.string s, .string ⟨#[47]⟩] w fun e w' => e = .returned (.tuple #[.string L, .string R, .bool g]) ∧ Below w.heap.size w w') {n : Int} (hd : decS R 3 = some n) {a : List Int} (ok : isA a) (hq : okA (quadS L) = a ∧ (quadS L).isSome = true) (hpok : (⟨a, 96 + n⟩ : Pf).ok) (hres : parsePS s = (zeroP, 21)) (hk : chk ⟨a, 96 + n⟩ = false) : Calls Tryz.prog 56 #[.string s] w fun e w' => PPR s e ∧ Below w.heap.size w w' := by
  have B0 := Bx.start1 w (oP zeroP)
  have E0 := (E.go B0.1).2
  replace hres := Lib.hid hres
  have hb := i64_of_wf hpok.2
  have hn := decS_rng hd
  have hwr : IntKind.i64.wrap (96 + n) = 96 + n := IntWalk.i64_in _ (by omega)
  go_enter Tryz.func56, Tryz.ntmps56
  go_wp2_with (first
    | (go_at_call 123; refine (hcut E0).mono ?_; rintro e w1 ⟨rfl, bel⟩; have E1 := (E0.go bel).2; have B1 := B0.go bel; clear bel)
    | (go_at_call 124; refine (dec_is E1 (by omega) hd).mono ?_; rintro e w2 ⟨rfl, bel⟩; have E2 := (E1.go bel).2; have B2 := B1.go bel; clear bel)
    | (go_at_call 101; refine (quad_is E2 (by omega) hq).mono ?_; rintro e w3 ⟨rfl, bel⟩; have E3 := (E2.go bel).2; have LT3 := lt_of_obj (B2.go bel).2.1.1; have B3 := (B2.go bel).alloc (oA a); have E4 := (E3.go ((Below.refl w3.heap.size w3).alloc (Nat.le_refl _) (oA a))).2; clear bel)
    | (refine wpList_store_new rfl 42 (.tmp 10) (.tmp 28) rfl rfl rfl (info42 ok) (by rw [sizeA ok] <;> rfl) (numsA_one _) ?_)
    | (refine wpList_quiet_take (C := Bx w w.heap.size [(w3.heap.size, oA a), (w.heap.size, oP zeroP)]) 7 5 (by rfl) B3 ?_))
  (try simp only [List.take_succ_cons, List.take_zero, List.drop_succ_cons, List.drop_zero])
  refine wpQuiet_hide ?_
  intro lq hlq
  refine wpQuiet_step_h hlq ?_
  clear hlq lq
  intro K lq hlq hK
  refine wanted_go (by rfl) ?_
  refine ⟨vA a, fun W hW => ?_, ?_⟩
  · have q := BoxA.run hW.2.1.1 ok
    exact quiet_load 42 _ rfl rfl q
  refine hK _ ?_
  clear hK K
  (try simp only [Act.put, List.setIfInBounds_toArray, List.set_cons_zero, List.set_cons_succ])
  refine wpQuiet_step_h hlq ?_
  clear hlq lq
  intro K lq hlq hK
  refine wanted_go (by rfl) ?_
  refine ⟨?_, fun W hW => ?_, ?_⟩
  rotate_left
  · have q := BoxA.run hW.2.1.1 ok
    go_simp
    with_reducible rfl
  refine hK _ ?_
  clear hK K
  (try simp only [Act.put, List.setIfInBounds_toArray, List.set_cons_zero, List.set_cons_succ])
  refine wpQuiet_step_h hlq ?_
  clear hlq lq
  intro K lq hlq hK
  refine wanted_go (by rfl) ?_
  refine ⟨?_, fun W hW => ?_, ?_⟩
  rotate_left
  · have q := BoxA.run hW.2.1.1 ok
    go_simp
    with_reducible rfl
  refine hK _ ?_
  clear hK K
  (try simp only [Act.put, List.setIfInBounds_toArray, List.set_cons_zero, List.set_cons_succ])
  refine wpQuiet_step_h hlq ?_
  clear hlq lq
  intro K lq hlq hK
  refine wanted_go (by rfl) ?_
  refine ⟨?_, fun W hW => ?_, ?_⟩
  rotate_left
  · have q := BoxA.run hW.2.1.1 ok
    go_simp
    with_reducible rfl
  refine hK _ ?_
  clear hK K
  (try simp only [Act.put, List.setIfInBounds_toArray, List.set_cons_zero, List.set_cons_succ])
  refine wpQuiet_step_h hlq ?_
  clear hlq lq
  intro K lq hlq hK
  refine wanted_go (by rfl) ?_
  refine ⟨.agg (pCs a (96 + n)).toArray, fun W hW => ?_, ?_⟩
  · have q := BoxA.run hW.2.1.1 ok
    exact quiet_build2 (x := .tmp 44) (y := .tmp 47) (vx := .agg (nums .u8 a).toArray) (vy := .int .i64 (96 + n)) rfl rfl rfl (built55 (a := a) (n := 96 + n) ok)
  refine hK _ ?_
  clear hK K
  (try simp only [Act.put, List.setIfInBounds_toArray, List.set_cons_zero, List.set_cons_succ])
  refine wpQuiet_nil_h hlq ?_
  clear hlq lq
  intro W5 B7
  have BP := B7.alloc (oP ⟨a, 96 + n⟩)
  go_wp2_with (first
    | (refine wpList_store_new rfl 55 (.tmp 12) (.tmp 48) rfl rfl rfl (info55 ok _) (by rw [pCs_size ok] <;> rfl) (pCs_one _ _) ?_)
    | (refine wpList_load_mid rfl 55 (.tmp 12) rfl W5.heap.size 0 rfl (pCs a (96 + n)) _ (row_load BP.2.1.1) Tryz.underlying55 rfl (info55 ok _) ?_)
    | (go_at_call 38; refine (check_nope hpok hk).mono ?_; clear hk; rintro e w6 ⟨rfl, bel⟩; have B6 := BP.go bel; clear bel)
    | (refine wpList_store_row rfl 55 (.tmp 2) (.tmp 53) rfl w.heap.size (pCs zeroA 0).toArray rfl rfl 55 (pCs zeroA 0).toArray B6.2.1.2.2.1 (info55 zeroA_ok _) rfl (pCs_one _ _) ?_))
  refine bodyPost_ret (v := .tuple #[vPf zeroP, .int .i64 21]) ?_ rfl ⟨by unfold PPR; rw [hres.out] <;> rfl, below_row B6.1 (Nat.le_refl _) _⟩
  exact results_cell_tmp rfl _ _ rfl (BoxP.run (p := zeroP) (setRow_heap _ _ _ _ _ _ B6.2.1.2.2.1) zeroA_ok).2.2 rfl
set_option maxRecDepth 100000 in
set_option maxHeartbeats 1600000 in
theorem pp_cy {w : World} (E : Env w) {s : ByteArray} (hs : s.size < 4294967281) {L R : ByteArray} {g : Bool} (hL : L.size ≤ s.size) (hR : R.size ≤ s.size) (hcut : ∀ {w : World}, Env w → Calls Tryz.prog 123 #[.string s, .string ⟨#[47]⟩] w fun e w' => e = .returned (.tuple #[.string L, .string R, .bool g]) ∧ Below w.heap.size w w') {n : Int} (hd : decS R 3 = some n) (hq : okA (quadS L) = zeroA ∧ (quadS L).isSome = false) {a : List Int} (ok : isA a) (hcol : okA (colS L) = a ∧ (colS L).isSome = true) (hpok : (⟨a, n⟩ : Pf).ok) (hres : parsePS s = (⟨a, n⟩, 0)) (hk : chk ⟨a, n⟩ = true) : Calls Tryz.prog 56 #[.string s] w fun e w' => PPR s e ∧ Below w.heap.size w w' := by
  have B0 := Bx.start1 w (oP zeroP)
  have E0 := (E.go B0.1).2
  replace hres := Lib.hid hres
  have hb := i64_of_wf hpok.2
  have hn := decS_rng hd
  have hwr : IntKind.i64.wrap (n) = n := IntWalk.i64_in _ (by omega)
  go_enter Tryz.func56, Tryz.ntmps56
  go_wp2_with (first
    | (go_at_call 123; refine (hcut E0).mono ?_; rintro e w1 ⟨rfl, bel⟩; have E1 := (E0.go bel).2; have B1 := B0.go bel; clear bel)
    | (go_at_call 124; refine (dec_is E1 (by omega) hd).mono ?_; rintro e w2 ⟨rfl, bel⟩; have E2 := (E1.go bel).2; have B2 := B1.go bel; clear bel)
    | (go_at_call 101; refine (quad_is E2 (by omega) hq).mono ?_; rintro e w3 ⟨rfl, bel⟩; have E3 := (E2.go bel).2; have LT3 := lt_of_obj (B2.go bel).2.1.1; have B3 := (B2.go bel).alloc (oA zeroA); have E4 := (E3.go ((Below.refl w3.heap.size w3).alloc (Nat.le_refl _) (oA zeroA))).2; clear bel)
    | (refine wpList_store_new rfl 42 (.tmp 10) (.tmp 28) rfl rfl rfl (info42 zeroA_ok) (by rw [sizeA zeroA_ok] <;> rfl) (numsA_one _) ?_)
    | (go_at_call 102; refine (col_is E4 (by omega) hcol).mono ?_; rintro e w4 ⟨rfl, bel⟩; have B4 := B3.go bel; have B5 := B4.set1 (nums .u8 a).toArray (Nat.le_of_lt LT3) (by intro x hx; simp at hx; subst hx; exact Nat.ne_of_lt LT3); clear bel)
    | (refine wpList_store_row rfl 42 (.tmp 10) (.tmp 35) rfl w3.heap.size _ rfl rfl 42 (nums .u8 zeroA).toArray B4.2.1.1 (info42 ok) (by rw [sizeA zeroA_ok, sizeA ok]) (numsA_one _) ?_)
    | (refine wpList_quiet_take (C := Bx w w.heap.size [(w3.heap.size, oA a), (w.heap.size, oP zeroP)]) 7 5 (by rfl) B5 ?_))
  (try simp only [List.take_succ_cons, List.take_zero, List.drop_succ_cons, List.drop_zero])
  refine wpQuiet_hide ?_
  intro lq hlq
  refine wpQuiet_step_h hlq ?_
  clear hlq lq
  intro K lq hlq hK
  refine wanted_go (by rfl) ?_
  refine ⟨vA a, fun W hW => ?_, ?_⟩
  · have q := BoxA.run hW.2.1.1 ok
    exact quiet_load 42 _ rfl rfl q
  refine hK _ ?_
  clear hK K
  (try simp only [Act.put, List.setIfInBounds_toArray, List.set_cons_zero, List.set_cons_succ])
  refine wpQuiet_step_h hlq ?_
  clear hlq lq
  intro K lq hlq hK
  refine wanted_go (by rfl) ?_
  refine ⟨?_, fun W hW => ?_, ?_⟩
  rotate_left
  · have q := BoxA.run hW.2.1.1 ok
    go_simp
    with_reducible rfl
  refine hK _ ?_
  clear hK K
  (try simp only [Act.put, List.setIfInBounds_toArray, List.set_cons_zero, List.set_cons_succ])
  refine wpQuiet_step_h hlq ?_
  clear hlq lq
  intro K lq hlq hK
  refine wanted_go (by rfl) ?_
  refine ⟨?_, fun W hW => ?_, ?_⟩
  rotate_left
  · have q := BoxA.run hW.2.1.1 ok
    go_simp
    with_reducible rfl
  refine hK _ ?_
  clear hK K
  (try simp only [Act.put, List.setIfInBounds_toArray, List.set_cons_zero, List.set_cons_succ])
  refine wpQuiet_step_h hlq ?_
  clear hlq lq
  intro K lq hlq hK
  refine wanted_go (by rfl) ?_
  refine ⟨?_, fun W hW => ?_, ?_⟩
  rotate_left
  · have q := BoxA.run hW.2.1.1 ok
    go_simp
    with_reducible rfl
  refine hK _ ?_
  clear hK K
  (try simp only [Act.put, List.setIfInBounds_toArray, List.set_cons_zero, List.set_cons_succ])
  refine wpQuiet_step_h hlq ?_
  clear hlq lq
  intro K lq hlq hK
  refine wanted_go (by rfl) ?_
  refine ⟨.agg (pCs a (n)).toArray, fun W hW => ?_, ?_⟩
  · have q := BoxA.run hW.2.1.1 ok
    exact quiet_build2 (x := .tmp 44) (y := .tmp 47) (vx := .agg (nums .u8 a).toArray) (vy := .int .i64 (n)) rfl rfl rfl (built55 (a := a) (n := n) ok)
  refine hK _ ?_
  clear hK K
  (try simp only [Act.put, List.setIfInBounds_toArray, List.set_cons_zero, List.set_cons_succ])
  refine wpQuiet_nil_h hlq ?_
  clear hlq lq
  intro W5 B7
  have BP := B7.alloc (oP ⟨a, n⟩)
  go_wp2_with (first
    | (refine wpList_store_new rfl 55 (.tmp 12) (.tmp 48) rfl rfl rfl (info55 ok _) (by rw [pCs_size ok] <;> rfl) (pCs_one _ _) ?_)
    | (refine wpList_load_mid rfl 55 (.tmp 12) rfl W5.heap.size 0 rfl (pCs a (n)) _ (row_load BP.2.1.1) Tryz.underlying55 rfl (info55 ok _) ?_)
    | (go_at_call 38; refine (check_yes hpok hk).mono ?_; clear hk; rintro e w6 ⟨rfl, bel⟩; have B6 := BP.go bel; clear bel)
    | (refine wpList_load_mid rfl 55 (.tmp 12) rfl (W5.heap.size) 0 rfl (pCs a (n)) _ (row_load B6.2.1.1) Tryz.underlying55 rfl (info55 ok _) ?_)
    | (refine wpList_store_row rfl 55 (.tmp 2) (.tmp 55) rfl w.heap.size _ rfl rfl 55 (pCs zeroA 0).toArray B6.2.1.2.2.1 (info55 ok _) (by rw [pCs_size zeroA_ok, pCs_size ok]) (pCs_one _ _) ?_))
  refine bodyPost_ret (v := .tuple #[vPf ⟨a, n⟩, .int .i64 0]) ?_ rfl ⟨by unfold PPR; rw [hres.out] <;> rfl, below_row B6.1 (Nat.le_refl _) _⟩
  exact results_cell_tmp rfl _ _ rfl (BoxP.run (p := ⟨a, n⟩) (setRow_heap _ _ _ _ _ _ B6.2.1.2.2.1) ok).2.2 rfl
set_option maxRecDepth 100000 in
set_option maxHeartbeats 1600000 in
theorem pp_cn {w : World} (E : Env w) {s : ByteArray} (hs : s.size < 4294967281) {L R : ByteArray} {g : Bool} (hL : L.size ≤ s.size) (hR : R.size ≤ s.size) (hcut : ∀ {w : World}, Env w → Calls Tryz.prog 123 #[.string s, .string ⟨#[47]⟩] w fun e w' => e = .returned (.tuple #[.string L, .string R, .bool g]) ∧ Below w.heap.size w w') {n : Int} (hd : decS R 3 = some n) (hq : okA (quadS L) = zeroA ∧ (quadS L).isSome = false) {a : List Int} (ok : isA a) (hcol : okA (colS L) = a ∧ (colS L).isSome = true) (hpok : (⟨a, n⟩ : Pf).ok) (hres : parsePS s = (zeroP, 21)) (hk : chk ⟨a, n⟩ = false) : Calls Tryz.prog 56 #[.string s] w fun e w' => PPR s e ∧ Below w.heap.size w w' := by
  have B0 := Bx.start1 w (oP zeroP)
  have E0 := (E.go B0.1).2
  replace hres := Lib.hid hres
  have hb := i64_of_wf hpok.2
  have hn := decS_rng hd
  have hwr : IntKind.i64.wrap (n) = n := IntWalk.i64_in _ (by omega)
  go_enter Tryz.func56, Tryz.ntmps56
  go_wp2_with (first
    | (go_at_call 123; refine (hcut E0).mono ?_; rintro e w1 ⟨rfl, bel⟩; have E1 := (E0.go bel).2; have B1 := B0.go bel; clear bel)
    | (go_at_call 124; refine (dec_is E1 (by omega) hd).mono ?_; rintro e w2 ⟨rfl, bel⟩; have E2 := (E1.go bel).2; have B2 := B1.go bel; clear bel)
    | (go_at_call 101; refine (quad_is E2 (by omega) hq).mono ?_; rintro e w3 ⟨rfl, bel⟩; have E3 := (E2.go bel).2; have LT3 := lt_of_obj (B2.go bel).2.1.1; have B3 := (B2.go bel).alloc (oA zeroA); have E4 := (E3.go ((Below.refl w3.heap.size w3).alloc (Nat.le_refl _) (oA zeroA))).2; clear bel)
    | (refine wpList_store_new rfl 42 (.tmp 10) (.tmp 28) rfl rfl rfl (info42 zeroA_ok) (by rw [sizeA zeroA_ok] <;> rfl) (numsA_one _) ?_)
    | (go_at_call 102; refine (col_is E4 (by omega) hcol).mono ?_; rintro e w4 ⟨rfl, bel⟩; have B4 := B3.go bel; have B5 := B4.set1 (nums .u8 a).toArray (Nat.le_of_lt LT3) (by intro x hx; simp at hx; subst hx; exact Nat.ne_of_lt LT3); clear bel)
    | (refine wpList_store_row rfl 42 (.tmp 10) (.tmp 35) rfl w3.heap.size _ rfl rfl 42 (nums .u8 zeroA).toArray B4.2.1.1 (info42 ok) (by rw [sizeA zeroA_ok, sizeA ok]) (numsA_one _) ?_)
    | (refine wpList_quiet_take (C := Bx w w.heap.size [(w3.heap.size, oA a), (w.heap.size, oP zeroP)]) 7 5 (by rfl) B5 ?_))
  (try simp only [List.take_succ_cons, List.take_zero, List.drop_succ_cons, List.drop_zero])
  refine wpQuiet_hide ?_
  intro lq hlq
  refine wpQuiet_step_h hlq ?_
  clear hlq lq
  intro K lq hlq hK
  refine wanted_go (by rfl) ?_
  refine ⟨vA a, fun W hW => ?_, ?_⟩
  · have q := BoxA.run hW.2.1.1 ok
    exact quiet_load 42 _ rfl rfl q
  refine hK _ ?_
  clear hK K
  (try simp only [Act.put, List.setIfInBounds_toArray, List.set_cons_zero, List.set_cons_succ])
  refine wpQuiet_step_h hlq ?_
  clear hlq lq
  intro K lq hlq hK
  refine wanted_go (by rfl) ?_
  refine ⟨?_, fun W hW => ?_, ?_⟩
  rotate_left
  · have q := BoxA.run hW.2.1.1 ok
    go_simp
    with_reducible rfl
  refine hK _ ?_
  clear hK K
  (try simp only [Act.put, List.setIfInBounds_toArray, List.set_cons_zero, List.set_cons_succ])
  refine wpQuiet_step_h hlq ?_
  clear hlq lq
  intro K lq hlq hK
  refine wanted_go (by rfl) ?_
  refine ⟨?_, fun W hW => ?_, ?_⟩
  rotate_left
  · have q := BoxA.run hW.2.1.1 ok
    go_simp
    with_reducible rfl
  refine hK _ ?_
  clear hK K
  (try simp only [Act.put, List.setIfInBounds_toArray, List.set_cons_zero, List.set_cons_succ])
  refine wpQuiet_step_h hlq ?_
  clear hlq lq
  intro K lq hlq hK
  refine wanted_go (by rfl) ?_
  refine ⟨?_, fun W hW => ?_, ?_⟩
  rotate_left
  · have q := BoxA.run hW.2.1.1 ok
    go_simp
    with_reducible rfl
  refine hK _ ?_
  clear hK K
  (try simp only [Act.put, List.setIfInBounds_toArray, List.set_cons_zero, List.set_cons_succ])
  refine wpQuiet_step_h hlq ?_
  clear hlq lq
  intro K lq hlq hK
  refine wanted_go (by rfl) ?_
  refine ⟨.agg (pCs a (n)).toArray, fun W hW => ?_, ?_⟩
  · have q := BoxA.run hW.2.1.1 ok
    exact quiet_build2 (x := .tmp 44) (y := .tmp 47) (vx := .agg (nums .u8 a).toArray) (vy := .int .i64 (n)) rfl rfl rfl (built55 (a := a) (n := n) ok)
  refine hK _ ?_
  clear hK K
  (try simp only [Act.put, List.setIfInBounds_toArray, List.set_cons_zero, List.set_cons_succ])
  refine wpQuiet_nil_h hlq ?_
  clear hlq lq
  intro W5 B7
  have BP := B7.alloc (oP ⟨a, n⟩)
  go_wp2_with (first
    | (refine wpList_store_new rfl 55 (.tmp 12) (.tmp 48) rfl rfl rfl (info55 ok _) (by rw [pCs_size ok] <;> rfl) (pCs_one _ _) ?_)
    | (refine wpList_load_mid rfl 55 (.tmp 12) rfl W5.heap.size 0 rfl (pCs a (n)) _ (row_load BP.2.1.1) Tryz.underlying55 rfl (info55 ok _) ?_)
    | (go_at_call 38; refine (check_nope hpok hk).mono ?_; clear hk; rintro e w6 ⟨rfl, bel⟩; have B6 := BP.go bel; clear bel)
    | (refine wpList_store_row rfl 55 (.tmp 2) (.tmp 53) rfl w.heap.size (pCs zeroA 0).toArray rfl rfl 55 (pCs zeroA 0).toArray B6.2.1.2.2.1 (info55 zeroA_ok _) rfl (pCs_one _ _) ?_))
  refine bodyPost_ret (v := .tuple #[vPf zeroP, .int .i64 21]) ?_ rfl ⟨by unfold PPR; rw [hres.out] <;> rfl, below_row B6.1 (Nat.le_refl _) _⟩
  exact results_cell_tmp rfl _ _ rfl (BoxP.run (p := zeroP) (setRow_heap _ _ _ _ _ _ B6.2.1.2.2.1) zeroA_ok).2.2 rfl
theorem raw_none {s : ByteArray} {l r : List UInt8} {g : Bool} (h : Lib.cut s.data.toList slashB.data.toList = (l, r, g)) (hd : decS ⟨r.toArray⟩ 3 = none) : parsePS s = (zeroP, 20) := by
  unfold parsePS rawS
  rw [h]
  simp only [hd]
theorem raw_no {s : ByteArray} {l r : List UInt8} {g : Bool} {n : Int} (h : Lib.cut s.data.toList slashB.data.toList = (l, r, g)) (hd : decS ⟨r.toArray⟩ 3 = some n) (hq : quadS ⟨l.toArray⟩ = none) (hc : colS ⟨l.toArray⟩ = none) : parsePS s = (zeroP, 20) := by
  unfold parsePS rawS
  rw [h]
  simp only [hd, hq, hc]
theorem raw_q {s : ByteArray} {l r : List UInt8} {g : Bool} {n : Int} {a : List Int} (h : Lib.cut s.data.toList slashB.data.toList = (l, r, g)) (hd : decS ⟨r.toArray⟩ 3 = some n) (hq : quadS ⟨l.toArray⟩ = some a) : parsePS s = if chk ⟨a, 96 + n⟩ then (⟨a, 96 + n⟩, 0) else (zeroP, 21) := by
  unfold parsePS rawS
  rw [h]
  simp only [hd, hq]
theorem raw_c {s : ByteArray} {l r : List UInt8} {g : Bool} {n : Int} {a : List Int} (h : Lib.cut s.data.toList slashB.data.toList = (l, r, g)) (hd : decS ⟨r.toArray⟩ 3 = some n) (hq : quadS ⟨l.toArray⟩ = none) (hc : colS ⟨l.toArray⟩ = some a) : parsePS s = if chk ⟨a, n⟩ then (⟨a, n⟩, 0) else (zeroP, 21) := by
  unfold parsePS rawS
  rw [h]
  simp only [hd, hq, hc]
theorem cut_lens' {s sep : ByteArray} {l r : List UInt8} {gap : Bool} (h : Lib.cut s.data.toList sep.data.toList = (l, r, gap)) : l.length ≤ s.size ∧ r.length ≤ s.size := by
  have hl : s.data.toList.length = s.size := Array.length_toList
  unfold Lib.cut at h
  split at h
  · cases h
    exact ⟨by rw [List.length_take]; omega, by rw [List.length_drop]; omega⟩
  · cases h
    exact ⟨by omega, Nat.zero_le _⟩
/-- ParsePrefix. -/
theorem pp_any {w : World} (E : Env w) {s : ByteArray} (hs : s.size < 4294967281) : Calls Tryz.prog 56 #[.string s] w fun e w' => PPR s e ∧ Below w.heap.size w w' := by
  obtain ⟨l, r, g, hcut⟩ : ∃ l r g, Lib.cut s.data.toList slashB.data.toList = (l, r, g) := ⟨_, _, _, rfl⟩
  obtain ⟨hl, hr⟩ := cut_lens' hcut
  have hL : (⟨l.toArray⟩ : ByteArray).size ≤ s.size := by show l.toArray.size ≤ _; simpa using hl
  have hR : (⟨r.toArray⟩ : ByteArray).size ≤ s.size := by show r.toArray.size ≤ _; simpa using hr
  have hc := fun {w : World} (E : Env w) => cut_any (sep := slashB) E hs hcut
  cases hd : decS ⟨r.toArray⟩ 3 with
  | none =>
    have hres := raw_none hcut hd
    cases hq : quadS ⟨l.toArray⟩ with
    | some a => exact pp_dq E hs hL hR hc hres hd (quadS_ok hq) (by rw [hq]; exact ⟨rfl, rfl⟩)
    | none =>
      cases hco : colS ⟨l.toArray⟩ with
      | some a => exact pp_dc E hs hL hR hc hres hd (by rw [hq]; exact ⟨rfl, rfl⟩) (colS_ok hco) (by rw [hco]; exact ⟨rfl, rfl⟩)
      | none => exact pp_dn E hs hL hR hc hres hd (by rw [hq]; exact ⟨rfl, rfl⟩) (by rw [hco]; exact ⟨rfl, rfl⟩)
  | some n =>
    obtain ⟨n0, n1⟩ := decS_rng hd
    cases hq : quadS ⟨l.toArray⟩ with
    | some a =>
      have hres := raw_q hcut hd hq
      have hp : (⟨a, 96 + n⟩ : Pf).ok := ⟨quadS_ok hq, wf_i64 (x := 96 + n) (by omega)⟩
      cases hk : chk ⟨a, 96 + n⟩ with
      | true => rw [hk] at hres; exact pp_qy E hs hL hR hc hd (quadS_ok hq) (by rw [hq]; exact ⟨rfl, rfl⟩) hp hres hk
      | false => rw [hk] at hres; exact pp_qn E hs hL hR hc hd (quadS_ok hq) (by rw [hq]; exact ⟨rfl, rfl⟩) hp hres hk
    | none =>
      cases hco : colS ⟨l.toArray⟩ with
      | none => exact pp_n E hs hL hR hc (raw_no hcut hd hq hco) hd (by rw [hq]; exact ⟨rfl, rfl⟩) (by rw [hco]; exact ⟨rfl, rfl⟩)
      | some a =>
        have hres := raw_c hcut hd hq hco
        have hp : (⟨a, n⟩ : Pf).ok := ⟨colS_ok hco, wf_i64 (x := n) (by omega)⟩
        cases hk : chk ⟨a, n⟩ with
        | true => rw [hk] at hres; exact pp_cy E hs hL hR hc hd (by rw [hq]; exact ⟨rfl, rfl⟩) (colS_ok hco) (by rw [hco]; exact ⟨rfl, rfl⟩) hp hres hk
        | false => rw [hk] at hres; exact pp_cn E hs hL hR hc hd (by rw [hq]; exact ⟨rfl, rfl⟩) (colS_ok hco) (by rw [hco]; exact ⟨rfl, rfl⟩) hp hres hk
end Go.Proofs.YtnljjlaececnkaaGreatDoor
/-
  Addresses and prefixes that are printed are read again: plain laws. Condition: an address is sixteen bytes.
-/
namespace Go.Proofs.YtnljjlaececnkaaGreatDoor
open Go.RowKit
set_option linter.unusedVariables false
set_option linter.unusedSimpArgs false
/-- An address of IPv4 as four numbers. -/
def dottedS (a : List Int) : List UInt8 := Lib.join ((a.drop 12).map Lib.itoa) [46]
/-- An address's text. -/
def printS (a : List Int) : List UInt8 := if fam a = 4 then dottedS a else groupedS a
/-- A prefix's text. -/
def pfxS (p : Pf) : List UInt8 := if chk p then (if pfam p = 4 then dottedS p.a ++ 47 :: Lib.itoa (p.n - 96) else groupedS p.a ++ 47 :: Lib.itoa p.n) else []
theorem dec_bytes : ∀ (k u : Nat), u ≤ k → ∀ c ∈ Lib.decDigits u, 48 ≤ c.toNat ∧ c.toNat ≤ 57
  | k, u, hk => by
    intro c hc
    rw [Lib.decDigits] at hc
    split at hc
    · rename_i h
      simp only [List.mem_singleton] at hc
      subst hc
      rw [digit_nat h]; omega
    · rename_i h
      rcases List.mem_append.1 hc with hc | hc
      · exact dec_bytes (k - 1) (u / 10) (by omega) c hc
      · simp only [List.mem_singleton] at hc
        subst hc
        rw [digit_nat (by omega)]; omega
termination_by k => k
decreasing_by omega
theorem itoa_bytes {x : Int} (h : 0 ≤ x) : ∀ c ∈ Lib.itoa x, 48 ≤ c.toNat ∧ c.toNat ≤ 57 := by
  obtain ⟨u, rfl⟩ : ∃ u : Nat, x = u := ⟨x.toNat, by omega⟩
  rw [Lib.itoa_nonneg]
  exact dec_bytes u u (Nat.le_refl _)
theorem ndig3 {u : Nat} (h : u < 1000) : Lib.nDigits u ≤ 3 := by
  by_cases h1 : u < 10
  · rw [Lib.nDigits_small h1]; omega
  · rw [Lib.nDigits_big h1]
    by_cases h2 : u / 10 < 10
    · rw [Lib.nDigits_small h2]; omega
    · rw [Lib.nDigits_big h2, Lib.nDigits_small (by omega)]; omega
theorem decS_itoa {x : Int} (h0 : 0 ≤ x) (h1 : x < 1000) : decS ⟨(Lib.itoa x).toArray⟩ 3 = some x := by
  obtain ⟨u, rfl⟩ : ∃ u : Nat, x = u := ⟨x.toNat, by omega⟩
  rw [decS_F (by decide)]
  show decF (Lib.itoa (u : Int)).toArray.toList 3 = _
  rw [List.toList_toArray, Lib.itoa_nonneg]
  exact decF_dec (by rw [Lib.decDigits_length]; have := ndig3 (u := u) (by omega); omega)
theorem octS_itoa {x : Int} (h0 : 0 ≤ x) (h1 : x < 256) : octS ⟨(Lib.itoa x).toArray⟩ = some x := by
  unfold octS
  rw [decS_itoa h0 (by omega)]
  exact if_pos (by omega)
theorem last4 {a : List Int} (ha : isA a) : ∃ x y z t, a.drop 12 = [x, y, z, t] ∧ (0 ≤ x ∧ x < 256) ∧ (0 ≤ y ∧ y < 256) ∧ (0 ≤ z ∧ z < 256) ∧ (0 ≤ t ∧ t < 256) := by
  have hl : (a.drop 12).length = 4 := by rw [List.length_drop, ha.1]
  have hb : ∀ x ∈ a.drop 12, 0 ≤ x ∧ x < 256 := fun x hx => ha.2 x (List.mem_of_mem_drop hx)
  rcases h : a.drop 12 with _ | ⟨x, _ | ⟨y, _ | ⟨z, _ | ⟨t, _ | ⟨u, r⟩⟩⟩⟩⟩ <;> rw [h] at hl hb <;> simp at hl
  exact ⟨x, y, z, t, rfl, hb x (by simp), hb y (by simp), hb z (by simp), hb t (by simp)⟩
theorem ne_of_digit {c d : UInt8} (h : 48 ≤ c.toNat ∧ c.toNat ≤ 57) (hd : d.toNat < 48 ∨ 57 < d.toNat) : c ≠ d := by rintro rfl; omega
theorem dotted_four {x y z t : Int} : Lib.join ([x, y, z, t].map Lib.itoa) [46] = Lib.itoa x ++ 46 :: (Lib.itoa y ++ 46 :: (Lib.itoa z ++ 46 :: Lib.itoa t)) := by
  simp [Lib.join_cons, Lib.joinTail]
theorem quad_dotted {a : List Int} (ha : isA a) (h4 : fam a = 4) : quadS ⟨(dottedS a).toArray⟩ = some a := by
  obtain ⟨x, y, z, t, hd, hx, hy, hz, ht⟩ := last4 ha
  have h12 : a.take 12 = mapd := by
    unfold fam at h4
    split at h4
    · assumption
    · omega
  have nd : ∀ {x : Int}, 0 ≤ x → ∀ c ∈ Lib.itoa x, c ≠ 46 := fun h c hc => ne_of_digit (itoa_bytes h c hc) (by decide)
  have hp : pieces ⟨(dottedS a).toArray⟩ dotB = [⟨(Lib.itoa x).toArray⟩, ⟨(Lib.itoa y).toArray⟩, ⟨(Lib.itoa z).toArray⟩, ⟨(Lib.itoa t).toArray⟩] := by
    show pieces _ ⟨#[46]⟩ = _
    rw [pieces_eq]
    unfold cutB dottedS
    rw [hd, dotted_four]
    simp only [List.toList_toArray]
    rw [cutL_at (nd hx.1), cutL_at (nd hy.1), cutL_at (nd hz.1), cutL_miss (nd ht.1)]
    rfl
  unfold quadS quadL
  rw [hp, if_pos]
  · simp only [List.map_cons, List.map_nil, octV, octS_itoa hx.1 hx.2, octS_itoa hy.1 hy.2, octS_itoa hz.1 hz.2, octS_itoa ht.1 ht.2, Option.getD_some]
    rw [← h12, ← hd, List.take_append_drop]
  · refine ⟨rfl, ?_⟩
    simp only [List.all_cons, List.all_nil, octS_itoa hx.1 hx.2, octS_itoa hy.1 hy.2, octS_itoa hz.1 hz.2, octS_itoa ht.1 ht.2]
    rfl
/-! ### groups -/
theorem dig_facts : ∀ f : Fin 16, hexD (dig f.val) = some f.val ∧ dig f.val ≠ 58 ∧ dig f.val ≠ 46 ∧ dig f.val ≠ 47 ∧ dig f.val ≠ 32 := by decide
theorem hexFrom_snoc : ∀ (l : List UInt8) (acc : Nat) (c : UInt8), hexFrom acc (l ++ [c]) = match hexFrom acc l with | some n => (match hexD c with | some d => some (16 * n + d) | none => none) | none => none
  | [], acc, c => by
    cases h : hexD c <;> simp [hexFrom, h]
  | x :: l, acc, c => by
    simp only [List.cons_append, hexFrom]
    split
    · exact hexFrom_snoc l _ c
    · rfl
theorem hexFrom_hexT : ∀ (k u : Nat), u ≤ k → hexFrom 0 (hexT u) = some u
  | k, u, hk => by
    by_cases h : u < 16
    · have := (dig_facts ⟨u, h⟩).1
      rw [hexT_small h]
      simp only [hexFrom, this]; simp
    · have := (dig_facts ⟨u % 16, by omega⟩).1
      rw [hexT_big h, hexFrom_snoc, hexFrom_hexT (k - 1) (u / 16) (by omega)]
      simp only [this]
      congr 1; omega
termination_by k => k
decreasing_by omega
/-- No byte of the four. -/
def plainB (c : UInt8) : Prop := c ≠ 58 ∧ c ≠ 46 ∧ c ≠ 47 ∧ c ≠ 32
theorem hexT_bytes : ∀ (k u : Nat), u ≤ k → ∀ c ∈ hexT u, plainB c
  | k, u, hk => by
    intro c hc
    by_cases h : u < 16
    · rw [hexT_small h, List.mem_singleton] at hc
      subst hc
      exact (dig_facts ⟨u, h⟩).2
    · rw [hexT_big h] at hc
      rcases List.mem_append.1 hc with hc | hc
      · exact hexT_bytes (k - 1) (u / 16) (by omega) c hc
      · rw [List.mem_singleton] at hc
        subst hc
        exact (dig_facts ⟨u % 16, by omega⟩).2
termination_by k => k
decreasing_by omega
theorem hexT_plain (u : Nat) : ∀ c ∈ hexT u, plainB c := hexT_bytes u u (Nat.le_refl _)
theorem hexT_ne (u : Nat) : hexT u ≠ [] := by
  by_cases h : u < 16
  · rw [hexT_small h]; simp
  · rw [hexT_big h]; simp
theorem grp_hex {u : Nat} (h : u < 65536) : grpS (hexB u) = some u := by
  have hs : (hexB u).size = (hexT u).length := by show (hexT u).toArray.size = _; simp
  have h1 := hexT_len 3 u (by omega)
  have h0 := List.length_pos_iff.2 (hexT_ne u)
  unfold grpS
  rw [if_neg (by omega)]
  show hexFrom 0 (hexT u).toArray.toList = _
  rw [List.toList_toArray]
  exact hexFrom_hexT u u (Nat.le_refl _)
/-- A colon is followed by another byte. -/
def Sepd (l : List UInt8) : Prop := ∀ j : Nat, l[j]? = some 58 → ∃ c, l[j + 1]? = some c ∧ c ≠ 58
theorem sep_nil : Sepd [] := fun j h => by simp at h
theorem sep_app {x t : List UInt8} (hx : ∀ c ∈ x, c ≠ 58) (ht : Sepd t) : Sepd (x ++ t) := by
  intro j hj
  by_cases h : j < x.length
  · rw [List.getElem?_append_left h] at hj
    exact absurd rfl (hx 58 (List.mem_of_getElem? hj))
  · rw [List.getElem?_append_right (by omega)] at hj
    obtain ⟨c, h1, h2⟩ := ht _ hj
    exact ⟨c, by rw [List.getElem?_append_right (by omega), show j + 1 - x.length = j - x.length + 1 by omega]; exact h1, h2⟩
theorem sep_cons {x t : List UInt8} (hne : x ≠ []) (hx : ∀ c ∈ x, c ≠ 58) (ht : Sepd t) : Sepd (58 :: (x ++ t)) := by
  intro j hj
  cases j with
  | zero =>
    cases x with
    | nil => exact absurd rfl hne
    | cons c x => exact ⟨c, rfl, hx c (by simp)⟩
  | succ j =>
    rw [List.getElem?_cons_succ] at hj ⊢
    exact sep_app hx ht j hj
theorem tail_cons (u : Nat) (l : List Nat) : Lib.joinTail [58] ((u :: l).map hexT) = 58 :: (hexT u ++ Lib.joinTail [58] (l.map hexT)) := by simp [Lib.joinTail]
theorem tail_sep : ∀ l : List Nat, Sepd (Lib.joinTail [58] (l.map hexT))
  | [] => sep_nil
  | u :: l => by
    rw [tail_cons]
    exact sep_cons (hexT_ne u) (fun c hc => (hexT_plain u c hc).1) (tail_sep l)
theorem joinS_cons (u : Nat) (l : List Nat) : joinS (u :: l) = hexT u ++ Lib.joinTail [58] (l.map hexT) := by
  unfold joinS; rw [List.map_cons, Lib.join_cons]
theorem joinS_nil : joinS [] = [] := rfl
theorem joinS_sep (l : List Nat) : Sepd (joinS l) := by
  cases l with
  | nil => exact sep_nil
  | cons u l => rw [joinS_cons]; exact sep_app (fun c hc => (hexT_plain u c hc).1) (tail_sep l)
theorem tail_bytes : ∀ l : List Nat, ∀ c ∈ Lib.joinTail [58] (l.map hexT), c ≠ 46 ∧ c ≠ 47 ∧ c ≠ 32
  | [], c, h => by simp [Lib.joinTail] at h
  | u :: l, c, h => by
    rw [tail_cons] at h
    rcases List.mem_cons.1 h with rfl | h
    · decide
    · rcases List.mem_append.1 h with h | h
      · exact (hexT_plain u c h).2
      · exact tail_bytes l c h
theorem joinS_bytes (l : List Nat) : ∀ c ∈ joinS l, c ≠ 46 ∧ c ≠ 47 ∧ c ≠ 32 := by
  cases l with
  | nil => intro c h; simp [joinS_nil] at h
  | cons u l =>
    intro c h
    rw [joinS_cons] at h
    rcases List.mem_append.1 h with h | h
    · exact (hexT_plain u c h).2
    · exact tail_bytes l c h
theorem grouped_bytes (a : List Int) : ∀ c ∈ groupedS a, c ≠ 46 ∧ c ≠ 47 ∧ c ≠ 32 := by
  intro c h
  unfold groupedS at h
  simp only at h
  split at h
  · exact joinS_bytes _ c h
  · rcases List.mem_append.1 h with h | h
    · rcases List.mem_append.1 h with h | h
      · exact joinS_bytes _ c h
      · simp at h; rcases h with rfl | rfl <;> decide
    · exact joinS_bytes _ c h
theorem occ_two (s : List UInt8) (j : Nat) : Lib.occAt s [58, 58] j = true ↔ s[j]? = some 58 ∧ s[j + 1]? = some 58 := by
  have e0 : s[j]? = (s.drop j)[0]? := by rw [List.getElem?_drop]; rfl
  have e1 : s[j + 1]? = (s.drop j)[1]? := by rw [List.getElem?_drop]
  rw [e0, e1]
  unfold Lib.occAt
  rcases s.drop j with _ | ⟨x, _ | ⟨y, t⟩⟩
  · simp [List.isPrefixOf]
  · simp [List.isPrefixOf]
  · constructor
    · intro h
      simp [List.isPrefixOf] at h
      obtain ⟨rfl, rfl⟩ := h
      exact ⟨rfl, rfl⟩
    · rintro ⟨h1, h2⟩
      cases h1; cases h2
      simp [List.isPrefixOf]
theorem index_sep {J : List UInt8} (h : Sepd J) : Lib.index J [58, 58] = -1 := Lib.index_none fun j _ => by
  rw [Bool.eq_false_iff]
  intro ho
  obtain ⟨h1, h2⟩ := (occ_two J j).1 ho
  obtain ⟨c, h3, h4⟩ := h j h1
  rw [h2] at h3; cases h3; exact h4 rfl
theorem index_gap {J : List UInt8} (h : Sepd J) (R : List UInt8) : Lib.index (J ++ [58, 58] ++ R) [58, 58] = J.length := by
  refine Lib.index_first (by simp) ((occ_two _ _).2 ⟨?_, ?_⟩) fun j hj => ?_
  · rw [List.append_assoc, List.getElem?_append_right (Nat.le_refl _), Nat.sub_self]; rfl
  · rw [List.append_assoc, List.getElem?_append_right (by omega), show J.length + 1 - J.length = 1 by omega]; rfl
  · rw [Bool.eq_false_iff]
    intro ho
    obtain ⟨h1, h2⟩ := (occ_two _ j).1 ho
    rw [List.append_assoc, List.getElem?_append_left hj] at h1
    obtain ⟨c, h3, h4⟩ := h j h1
    have hj2 := (List.getElem?_eq_some_iff.1 h3).1
    rw [List.append_assoc, List.getElem?_append_left hj2, h3] at h2
    cases h2; exact h4 rfl
theorem cut_sep {J : List UInt8} (h : Sepd J) : Lib.cut J [58, 58] = (J, [], false) := by
  unfold Lib.cut
  rw [index_sep h, if_neg (by decide)]
theorem cut_gap {J : List UInt8} (h : Sepd J) (R : List UInt8) : Lib.cut (J ++ [58, 58] ++ R) [58, 58] = (J, R, true) := by
  unfold Lib.cut
  rw [index_gap h R, if_pos (by omega)]
  have e : ((J.length : Int)).toNat = J.length := by omega
  rw [e, List.append_assoc, List.take_left, List.length_cons, List.length_cons, List.length_nil, ← List.append_assoc]
  have : (J ++ [58, 58]).length = J.length + (0 + 1 + 1) := by simp
  rw [← this, List.drop_left]
/-- The bytes of groups. -/
def fb (l : List Nat) : List Int := (l.map fun u => [((u / 256 : Nat) : Int), ((u % 256 : Nat) : Int)]).flatten
theorem fb_app (l m : List Nat) : fb (l ++ m) = fb l ++ fb m := by simp [fb]
theorem fb_len (l : List Nat) : (fb l).length = 2 * l.length := by
  induction l with
  | nil => rfl
  | cons u l ih => simp only [fb, List.map_cons, List.flatten_cons, List.length_append, List.length_cons, List.length_nil] at *; omega
theorem fb_zeros : ∀ k, fb (List.replicate k 0) = List.replicate (2 * k) 0
  | 0 => rfl
  | k + 1 => by
    rw [List.replicate_succ, show (0 :: List.replicate k 0 : List Nat) = [0] ++ List.replicate k 0 from rfl, fb_app, fb_zeros k, show 2 * (k + 1) = 2 * k + 1 + 1 by omega, List.replicate_succ, List.replicate_succ]; rfl
theorem cut_join (u : Nat) : ∀ l : List Nat, cutL 58 (joinS (u :: l)) = (u :: l).map hexT := by
  have key : ∀ (l : List Nat) (x : List UInt8), (∀ c ∈ x, c ≠ 58) → cutL 58 (x ++ Lib.joinTail [58] (l.map hexT)) = x :: l.map hexT := by
    intro l
    induction l with
    | nil => intro x hx; simpa [Lib.joinTail] using cutL_miss hx
    | cons v l ih =>
      intro x hx
      rw [tail_cons, cutL_at hx, ih _ (fun c hc => (hexT_plain v c hc).1)]; rfl
  intro l
  rw [joinS_cons, key l _ (fun c hc => (hexT_plain u c hc).1)]; rfl
theorem grps_join {l : List Nat} (h : ∀ u ∈ l, u < 65536) : grpsS ⟨(joinS l).toArray⟩ = some (fb l) := by
  cases l with
  | nil => rfl
  | cons u l =>
    have hsz : (⟨(joinS (u :: l)).toArray⟩ : ByteArray).size ≠ 0 := by
      have h0 := List.length_pos_iff.2 (hexT_ne u)
      show (joinS (u :: l)).toArray.size ≠ 0
      rw [List.size_toArray, joinS_cons, List.length_append]; omega
    have hp : pieces ⟨(joinS (u :: l)).toArray⟩ colB = (u :: l).map hexB := by
      show pieces _ ⟨#[58]⟩ = _
      rw [pieces_eq]
      unfold cutB
      simp only [List.toList_toArray]
      rw [cut_join, List.map_map]; rfl
    unfold grpsS
    rw [if_neg hsz, hp]
    unfold grpsL
    rw [if_pos]
    · congr 1
      unfold fb
      rw [List.map_map]
      congr 1
      apply List.map_congr_left
      intro v hv
      show grpV (hexB v) = _
      unfold grpV
      rw [grp_hex (h v hv)]; rfl
    · rw [List.all_eq_true]
      intro t ht
      obtain ⟨v, hv, rfl⟩ := List.mem_map.1 ht
      rw [grp_hex (h v hv)]; rfl
theorem zc_all : ∀ (l : List Nat) (j : Nat), j < zc l → l[j]? = some 0
  | [], j, h => by simp [zc] at h
  | x :: l, j, h => by
    unfold zc at h
    split at h
    · rename_i hx
      cases j with
      | zero => simp [hx]
      | succ j => rw [List.getElem?_cons_succ]; exact zc_all l j (by omega)
    · omega
theorem run_zero (l : List Nat) : ∀ k j, (runAt l k).1 ≤ j → j < (runAt l k).2 → l[j]? = some 0
  | 0, j, h1, h2 => by simp [runAt] at h2
  | k + 1, j, h1, h2 => by
    unfold runAt runStep at h1 h2
    split at h1
    · rename_i hc
      rw [if_pos hc] at h2
      simp only at h1 h2
      have := zc_all (l.drop k) (j - k) (by omega)
      rw [List.getElem?_drop] at this
      rwa [show k + (j - k) = j by omega] at this
    · rename_i hc
      rw [if_neg hc] at h2
      exact run_zero l k j h1 h2
theorem mid_zeros {l : List Nat} {lo hi : Nat} (h1 : lo ≤ hi) (h2 : hi ≤ l.length) (h : ∀ j, lo ≤ j → j < hi → l[j]? = some 0) : l = l.take lo ++ List.replicate (hi - lo) 0 ++ l.drop hi := by
  apply List.ext_getElem?
  intro j
  have t : (l.take lo).length = lo := by rw [List.length_take]; omega
  by_cases c1 : j < lo
  · rw [List.append_assoc, List.getElem?_append_left (by omega), List.getElem?_take_of_lt c1]
  · by_cases c2 : j < hi
    · rw [List.append_assoc, List.getElem?_append_right (by omega), List.getElem?_append_left (by simp; omega), List.getElem?_replicate, if_pos (by omega), h j (by omega) c2]
    · rw [List.getElem?_append_right (by simp; omega), List.getElem?_drop]
      congr 1
      simp; omega
theorem fb_groups {a : List Int} (ha : isA a) : fb (groups a) = a := by
  have key : ∀ n, n ≤ 8 → fb ((List.range n).map (gr a)) = a.take (2 * n) := by
    intro n
    induction n with
    | zero => intro _; rfl
    | succ n ih =>
      intro hn
      obtain ⟨x, hx, hx2, x0, x1⟩ := isA_getD ha (j := 2 * n) (by omega)
      obtain ⟨y, hy, hy2, y0, y1⟩ := isA_getD ha (j := 2 * n + 1) (by omega)
      rw [List.range_succ, List.map_append, fb_app, ih (by omega), show 2 * (n + 1) = 2 * n + 1 + 1 by omega, take_snoc hy, take_snoc hx, List.append_assoc]
      congr 1
      show fb [gr a n] = [x] ++ [y]
      have e1 : ((gr a n / 256 : Nat) : Int) = x := by unfold gr; rw [hx2, hy2]; omega
      have e2 : ((gr a n % 256 : Nat) : Int) = y := by unfold gr; rw [hx2, hy2]; omega
      simp only [fb, List.map_cons, List.map_nil, List.flatten_cons, List.flatten_nil, List.append_nil]
      rw [e1, e2]; rfl
  have := key 8 (Nat.le_refl _)
  rw [List.take_of_length_le (by rw [ha.1]; exact Nat.le_refl _)] at this
  exact this
theorem runAt_two (l : List Nat) : ∀ k, (runAt l k).2 = (runAt l k).1 ∨ (runAt l k).1 + 2 ≤ (runAt l k).2
  | 0 => .inl rfl
  | k + 1 => by
    unfold runAt runStep
    split
    · right; simp only; omega
    · exact runAt_two l k
theorem col_grouped {a : List Int} (ha : isA a) : colS ⟨(groupedS a).toArray⟩ = some a := by
  have hG := fb_groups ha
  have hlt := groups_lt ha
  have hlen := groups_len a
  have hle := runAt_le (groups a) 8 (by omega)
  have hz := run_zero (groups a) 8
  have h2 := runAt_two (groups a) 8
  unfold groupedS
  simp only
  generalize groups a = G at *
  generalize runAt G 8 = r at *
  obtain ⟨lo, hi⟩ := r
  simp only at *
  split
  · have hcut : Lib.cut (⟨(joinS G).toArray⟩ : ByteArray).data.toList gapB.data.toList = (joinS G, [], false) := by
      show Lib.cut (joinS G).toArray.toList [58, 58] = _
      rw [List.toList_toArray]; exact cut_sep (joinS_sep G)
    rw [col_yes hcut (grps_join hlt) (show grpsS ⟨([] : List UInt8).toArray⟩ = some [] from rfl), if_neg]
    · unfold fillA
      rw [hG, ha.1]; simp
    · rintro (⟨-, h⟩ | ⟨h, -⟩)
      · rw [fb_len, hlen] at h; exact h rfl
      · cases h
  · rename_i hne
    have hcut : Lib.cut (⟨(joinS (G.take lo) ++ [58, 58] ++ joinS (G.drop hi)).toArray⟩ : ByteArray).data.toList gapB.data.toList = (joinS (G.take lo), joinS (G.drop hi), true) := by
      show Lib.cut (joinS (G.take lo) ++ [58, 58] ++ joinS (G.drop hi)).toArray.toList [58, 58] = _
      rw [List.toList_toArray]; exact cut_gap (joinS_sep _) _
    have l1 : (fb (G.take lo)).length = 2 * lo := by rw [fb_len, List.length_take]; omega
    have l2 : (fb (G.drop hi)).length = 2 * (8 - hi) := by rw [fb_len, List.length_drop, hlen]
    rw [col_yes hcut (grps_join (fun u hu => hlt u (List.mem_of_mem_take hu))) (grps_join (fun u hu => hlt u (List.mem_of_mem_drop hu))), if_neg]
    · unfold fillA
      have hm := mid_zeros hle.1 hle.2 hz
      rw [l1, l2, show 16 - 2 * lo - 2 * (8 - hi) = 2 * (hi - lo) by omega, ← fb_zeros, ← fb_app, ← fb_app, ← hm, hG]
    · rintro (⟨h, -⟩ | ⟨-, h⟩)
      · cases h
      · omega
theorem quad_grouped (a : List Int) : quadS ⟨(groupedS a).toArray⟩ = none := by
  have hp : pieces ⟨(groupedS a).toArray⟩ dotB = [⟨(groupedS a).toArray⟩] := by
    show pieces _ ⟨#[46]⟩ = _
    rw [pieces_eq]
    unfold cutB
    simp only [List.toList_toArray]
    rw [cutL_miss (fun c hc => (grouped_bytes a c hc).1)]; rfl
  unfold quadS quadL
  rw [hp]
  exact if_neg (fun h => by simp at h)
/-- The law of what is printed. -/
theorem parse_print {a : List Int} (ha : isA a) : parseS ⟨(printS a).toArray⟩ = some a := by
  by_cases h : fam a = 4
  · have e : printS a = dottedS a := if_pos h
    rw [e]; unfold parseS; rw [quad_dotted ha h]
  · have e : printS a = groupedS a := if_neg h
    rw [e]; unfold parseS; rw [quad_grouped]; exact col_grouped ha
/-! ### prefixes -/
theorem indexByte_at {c : UInt8} : ∀ {p : List UInt8}, (∀ x ∈ p, x ≠ c) → ∀ r, Lib.indexByte (p ++ c :: r) c = p.length
  | [], _, r => by simp [Lib.indexByte]
  | x :: p, h, r => by
    have ih := indexByte_at (p := p) (fun y hy => h y (by simp [hy])) r
    have hx : (x == c) = false := by rw [beq_eq_false_iff_ne]; exact h x (by simp)
    rw [List.cons_append, Lib.indexByte, ih, hx]
    have : ((p.length : Int) == -1) = false := by rw [beq_eq_false_iff_ne]; omega
    simp [this]
theorem cut_byte {c : UInt8} {p : List UInt8} (h : ∀ x ∈ p, x ≠ c) (r : List UInt8) : Lib.cut (p ++ c :: r) [c] = (p, r, true) := by
  unfold Lib.cut
  rw [Lib.index_one, indexByte_at h r, if_pos (by omega)]
  have e : ((p.length : Int)).toNat = p.length := by omega
  rw [e, List.take_left, List.length_singleton, List.append_cons]
  have : (p ++ [c]).length = p.length + 1 := by simp
  rw [← this, List.drop_left]
theorem dotted_bytes {a : List Int} (ha : isA a) : ∀ c ∈ dottedS a, c ≠ 47 ∧ c ≠ 32 ∧ c ≠ 58 := by
  obtain ⟨x, y, z, t, hd, hx, hy, hz, ht⟩ := last4 ha
  intro c hc
  unfold dottedS at hc
  rw [hd, dotted_four] at hc
  have k : ∀ {x : Int}, 0 ≤ x → c ∈ Lib.itoa x → c ≠ 47 ∧ c ≠ 32 ∧ c ≠ 58 := fun h0 h => by
    have := itoa_bytes h0 c h
    exact ⟨ne_of_digit this (by decide), ne_of_digit this (by decide), ne_of_digit this (by decide)⟩
  simp only [List.mem_append, List.mem_cons] at hc
  rcases hc with h | rfl | h | rfl | h | rfl | h
  · exact k hx.1 h
  · decide
  · exact k hy.1 h
  · decide
  · exact k hz.1 h
  · decide
  · exact k ht.1 h
theorem pfam4 {p : Pf} (h : pfam p = 4) : 96 ≤ p.n ∧ fam p.a = 4 := by
  unfold pfam at h
  split at h
  · omega
  · exact ⟨by omega, h⟩
theorem chk_rng {p : Pf} (h : chk p = true) : 0 ≤ p.n ∧ p.n ≤ 128 := ⟨((chk_iff p).1 h).1, ((chk_iff p).1 h).2.1⟩
theorem pfx_yes {p : Pf} (h : chk p = true) : pfxS p = if pfam p = 4 then dottedS p.a ++ 47 :: Lib.itoa (p.n - 96) else groupedS p.a ++ 47 :: Lib.itoa p.n := by unfold pfxS; rw [if_pos h]
theorem pfx_no {p : Pf} (h : chk p = false) : pfxS p = [] := by unfold pfxS; rw [h]; rfl
theorem back_pfx {p : Pf} (ha : isA p.a) (h : chk p = true) : parsePS ⟨(pfxS p).toArray⟩ = (p, 0) := by
  obtain ⟨h0, h1⟩ := chk_rng h
  rw [pfx_yes h]
  split
  · rename_i h4
    obtain ⟨h96, hf⟩ := pfam4 h4
    have hcut : Lib.cut (⟨(dottedS p.a ++ 47 :: Lib.itoa (p.n - 96)).toArray⟩ : ByteArray).data.toList slashB.data.toList = (dottedS p.a, Lib.itoa (p.n - 96), true) := by
      show Lib.cut (dottedS p.a ++ 47 :: Lib.itoa (p.n - 96)).toArray.toList [47] = _
      rw [List.toList_toArray]; exact cut_byte (fun c hc => (dotted_bytes ha c hc).1) _
    rw [raw_q hcut (decS_itoa (by omega) (by omega)) (quad_dotted ha hf), show 96 + (p.n - 96) = p.n by omega]
    exact if_pos h
  · have hcut : Lib.cut (⟨(groupedS p.a ++ 47 :: Lib.itoa p.n).toArray⟩ : ByteArray).data.toList slashB.data.toList = (groupedS p.a, Lib.itoa p.n, true) := by
      show Lib.cut (groupedS p.a ++ 47 :: Lib.itoa p.n).toArray.toList [47] = _
      rw [List.toList_toArray]; exact cut_byte (fun c hc => (grouped_bytes p.a c hc).2.1) _
    rw [raw_c hcut (decS_itoa (by omega) (by omega)) (quad_grouped p.a) (col_grouped ha)]
    exact if_pos h
theorem pfx_nospace {p : Pf} (ha : isA p.a) : ∀ c ∈ pfxS p, c ≠ 32 := by
  intro c hc
  cases h : chk p with
  | false => rw [pfx_no h] at hc; cases hc
  | true =>
    obtain ⟨h0, h1⟩ := chk_rng h
    rw [pfx_yes h] at hc
    split at hc
    · rename_i h4
      obtain ⟨h96, hf⟩ := pfam4 h4
      rcases List.mem_append.1 hc with hc | hc
      · exact (dotted_bytes ha c hc).2.1
      · rcases List.mem_cons.1 hc with rfl | hc
        · decide
        · exact ne_of_digit (itoa_bytes (by omega) c hc) (by decide)
    · rcases List.mem_append.1 hc with hc | hc
      · exact (grouped_bytes p.a c hc).2.2
      · rcases List.mem_cons.1 hc with rfl | hc
        · decide
        · exact ne_of_digit (itoa_bytes h0 c hc) (by decide)
end Go.Proofs.YtnljjlaececnkaaGreatDoor
/-
  Comparing addresses, prefixes, pairs. Condition: an address is sixteen bytes, a length a machine's number.
-/
namespace Go.Proofs.YtnljjlaececnkaaGreatDoor
open Go.RowKit
set_option linter.unusedVariables false
set_option linter.unusedSimpArgs false
theorem lexc_first : ∀ (i : Nat) (a b : List Int) (x y : Int), (∀ j, j < i → a[j]? = b[j]?) → a[i]? = some x → b[i]? = some y → x ≠ y → lexc a b = if x < y then -1 else 1
  | 0, [], b, x, y, _, h, _, _ => by simp at h
  | 0, _ :: _, [], x, y, _, _, h, _ => by simp at h
  | 0, p :: a, q :: b, x, y, _, h1, h2, hn => by
    simp at h1 h2
    subst h1 h2
    unfold lexc
    split
    · rfl
    · rw [if_pos (by omega)]
  | i + 1, [], b, x, y, _, h, _, _ => by simp at h
  | i + 1, _ :: _, [], x, y, _, _, h, _ => by simp at h
  | i + 1, p :: a, q :: b, x, y, hall, h1, h2, hn => by
    have h0 := hall 0 (by omega)
    simp at h0
    subst h0
    unfold lexc
    rw [if_neg (by omega), if_neg (by omega)]
    exact lexc_first i a b x y (fun j hj => by have := hall (j + 1) (by omega); simpa using this) (by simpa using h1) (by simpa using h2) hn
theorem ba_get (l : List UInt8) (i : Nat) (h : i < l.length) : (⟨l.toArray⟩ : ByteArray)[i]! = l[i] := by
  rw [Lib.get!_eq, List.getD_eq_getElem?_getD, List.getElem?_eq_getElem h]; rfl
theorem cmp_lex {a b : List Int} (ha : ∀ x ∈ a, 0 ≤ x ∧ x < 256) (hb : ∀ x ∈ b, 0 ≤ x ∧ x < 256) (hl : a.length = b.length) : Extern.BytealgCompare.cmp ⟨(Lib.bytesOf a).toArray⟩ ⟨(Lib.bytesOf b).toArray⟩ = lexc a b := by
  have la : (Lib.bytesOf a).length = a.length := by simp [Lib.bytesOf]
  have lb : (Lib.bytesOf b).length = b.length := by simp [Lib.bytesOf]
  have sa : (⟨(Lib.bytesOf a).toArray⟩ : ByteArray).size = a.length := by show (Lib.bytesOf a).toArray.size = _; simp [la]
  have sb : (⟨(Lib.bytesOf b).toArray⟩ : ByteArray).size = b.length := by show (Lib.bytesOf b).toArray.size = _; simp [lb]
  have key : ∀ i (h1 : i < a.length) (h2 : i < b.length), ((Lib.bytesOf a)[i]'(by omega) = (Lib.bytesOf b)[i]'(by omega) ↔ a[i] = b[i]) ∧ ((Lib.bytesOf a)[i]'(by omega) < (Lib.bytesOf b)[i]'(by omega) ↔ a[i] < b[i]) := by
    intro i h1 h2
    have xa := ha _ (List.getElem_mem h1)
    have xb := hb _ (List.getElem_mem h2)
    have e1 : (Lib.bytesOf a)[i]'(by omega) = a[i].toNat.toUInt8 := by simp [Lib.bytesOf]
    have e2 : (Lib.bytesOf b)[i]'(by omega) = b[i].toNat.toUInt8 := by simp [Lib.bytesOf]
    rw [e1, e2]
    have n1 : (a[i].toNat.toUInt8).toNat = a[i].toNat := by simp; omega
    have n2 : (b[i].toNat.toUInt8).toNat = b[i].toNat := by simp; omega
    refine ⟨⟨fun h => ?_, fun h => by rw [h]⟩, ?_⟩
    · have := congrArg UInt8.toNat h
      rw [n1, n2] at this; omega
    · rw [UInt8.lt_iff_toNat_lt, n1, n2]; omega
  unfold Extern.BytealgCompare.cmp
  rw [sa, sb, hl, Nat.min_self]
  split
  · rename_i i hf
    obtain ⟨hp, hi, hall⟩ := List.find?_range_eq_some.1 hf
    have hi2 : i < b.length := List.mem_range.1 hi
    have hi1 : i < a.length := by omega
    rw [ba_get _ _ (by omega), ba_get _ _ (by omega)] at hp ⊢
    have hne : a[i] ≠ b[i] := fun e => by
      have := (key i hi1 hi2).1.2 e
      rw [this] at hp; simp at hp
    rw [lexc_first i a b a[i] b[i] (fun j hj => ?_) (List.getElem?_eq_getElem hi1) (List.getElem?_eq_getElem hi2) hne]
    · by_cases hlt : a[i] < b[i]
      · rw [if_pos hlt, if_pos ((key i hi1 hi2).2.2 hlt)]
      · rw [if_neg hlt, if_neg (fun h => hlt ((key i hi1 hi2).2.1 h))]
    · have hj2 := hall j hj
      rw [ba_get _ _ (by omega), ba_get _ _ (by omega)] at hj2
      have he : (Lib.bytesOf a)[j]'(by omega) = (Lib.bytesOf b)[j]'(by omega) := by simpa using hj2
      rw [List.getElem?_eq_getElem (by omega), List.getElem?_eq_getElem (by omega), (key j (by omega) (by omega)).1.1 he]
  · rename_i hf
    have hab : a = b := by
      apply List.ext_getElem hl
      intro i h1 h2
      have := List.find?_eq_none.1 hf i (List.mem_range.2 h2)
      rw [ba_get _ _ (by omega), ba_get _ _ (by omega)] at this
      exact (key i h1 h2).1.1 (by simpa using this)
    subst hab
    rw [if_neg (by omega), if_neg (by omega)]
    exact ((lexc_zero a a rfl).2 rfl).symm
theorem compare_run {w : World} {g h : Nat} {a b : List Int} (ha : isA a) (hb : isA b) (hg : w.heap[g]? = some (oA a)) (hh : w.heap[h]? = some (oA b)) :
    (callFunc 168 #[.slice (some ⟨g, 0, none⟩) 16 16, .slice (some ⟨h, 0, none⟩) 16 16]).run Tryz.prog w = .ok (.value (.int .i64 (cmpA a b))) w := by
  have l : ∀ {g : Nat} {a : List Int}, isA a → w.heap[g]? = some (oA a) → (Extern.Bytes.bytesOf (.slice (some ⟨g, 0, none⟩) 16 16)).run Tryz.prog w = .ok ⟨(Lib.bytesOf a).toArray⟩ w := by
    intro g a ha hg
    have hr := row_load hg
    have := Lib.run_loadBytesX (P := Tryz.prog) w a ⟨g, 0, none⟩ .empty (fun j x hj => by
      have := hr j _ (nums_get (k := .u8) hj)
      rw [Addr.add_mid]; exact this)
    rw [ha.1] at this
    show (Extern.Bytes.loadBytes ⟨g, 0, none⟩ 16 .empty).run Tryz.prog w = _
    rw [this]
    congr 1
    simp [ByteArray.empty, ByteArray.emptyWithCapacity]
    try rfl
  rw [run_callFunc_extern (e := Extern.BytealgCompare.compare) Tryz.func168 (by kernel_rfl) (by kernel_rfl) (by kernel_rfl) (by kernel_rfl)]
  have : (Extern.BytealgCompare.compare #[.slice (some ⟨g, 0, none⟩) 16 16, .slice (some ⟨h, 0, none⟩) 16 16]).run Tryz.prog w = .ok (.int .i64 (cmpA a b)) w := by
    have h1 := l ha hg
    have h2 := l hb hh
    change Sem.run Tryz.prog (do
      let x ← Extern.Bytes.bytesOf (.slice (some ⟨g, 0, none⟩) 16 16)
      let y ← Extern.Bytes.bytesOf (.slice (some ⟨h, 0, none⟩) 16 16)
      pure (goInt (Extern.BytealgCompare.cmp x y))) w = _
    simp only [Sem.run_bind, h1, h2, Result.andThen_ok, Sem.run_pure]
    rw [cmp_lex ha.2 hb.2 (by rw [ha.1, hb.1])]
    rfl
  rw [this]; rfl
theorem exec_load {P : Program} {o : Oper} {a : Act} {w : World} {v : Value} (ty : TypeId) (x : Operand) (ho : o.op = .load ty x) {p : Addr} (hx : a.eval x = .pointer (some p)) (h : (loadVar ty p).run P w = .ok v w) : (execOp a.eval o).run P w = .ok (.value v) w := by
  unfold execOp
  simp only [ho, hx, Instr.loadAt, Instr.sureAddr, Sem.run_bind, Sem.run_pure, Result.andThen_ok, h]
set_option maxRecDepth 100000 in
set_option maxHeartbeats 400000 in
theorem bcmp {w : World} {g h : Nat} {a b : List Int} (ha : isA a) (hb : isA b) (hg : w.heap[g]? = some (oA a)) (hh : w.heap[h]? = some (oA b)) : Calls Tryz.prog 112 #[.slice (some ⟨g, 0, none⟩) 16 16, .slice (some ⟨h, 0, none⟩) 16 16] w fun e w' => e = .returned (.int .i64 (cmpA a b)) ∧ w' = w := by
  have hcr := compare_run ha hb hg hh
  clear ha hb hg hh
  go_enter Tryz.func112, Tryz.ntmps112
  go_wp2_with fail
  go_ret
  exact ⟨rfl, rfl⟩
set_option maxRecDepth 100000 in
set_option maxHeartbeats 400000 in
/-- Compare. -/
theorem cmp_any {w : World} {a b : List Int} (ha : isA a) (hb : isA b) : Calls Tryz.prog 43 #[vA a, vA b] w fun e w' => e = .returned (.int .i64 (cmpA a b)) ∧ Below w.heap.size w w' := by
  replace ha := Lib.hid ha
  replace hb := Lib.hid hb
  unfold vA
  go_enter Tryz.func43, Tryz.ntmps43
  go_wp2_with fail
  refine wp_region_C (C := Bx w w.heap.size [(w.heap.size, oA a), (w.heap.size + 1, oA b)]) (by kernel_rfl) (by kernel_rfl) (Bx.drew (Bx.start2 w (oA a) (oA b))) ?_
  refine wpQuiet_hide ?_
  intro lq hlq
  refine wpQuiet_step_h hlq ?_
  clear hlq lq
  intro K lq hlq hK
  refine wanted_go (by rfl) ?_
  refine ⟨?_, fun W hW => ?_, ?_⟩
  rotate_left
  · skip
    go_simp
    with_reducible rfl
  refine hK _ ?_
  clear hK K
  (try simp only [Act.put, List.setIfInBounds_toArray, List.set_cons_zero, List.set_cons_succ])
  refine wpQuiet_step_h hlq ?_
  clear hlq lq
  intro K lq hlq hK
  refine wanted_go (by rfl) ?_
  refine ⟨?_, fun W hW => ?_, ?_⟩
  rotate_left
  · skip
    go_simp
    with_reducible rfl
  refine hK _ ?_
  clear hK K
  (try simp only [Act.put, List.setIfInBounds_toArray, List.set_cons_zero, List.set_cons_succ])
  refine wpQuiet_step_h hlq ?_
  clear hlq lq
  intro K lq hlq hK
  refine wanted_go (by rfl) ?_
  refine ⟨.int .i64 (cmpA a b), fun W hW => ?_, ?_⟩
  · go_simp
    refine (bcmp ha.out hb.out hW.2.1.1 hW.2.1.2.1).mono fun e W2 hc2 => ⟨hc2.1, by rw [hc2.2]; exact hW⟩
  refine hK _ ?_
  clear hK K
  (try simp only [Act.put, List.setIfInBounds_toArray, List.set_cons_zero, List.set_cons_succ])
  refine wpQuiet_step_h hlq ?_
  clear hlq lq
  intro K lq hlq hK
  refine wanted_go (by rfl) ?_
  refine ⟨?_, fun W hW => ?_, ?_⟩
  rotate_left
  · skip
    go_simp
    with_reducible rfl
  refine hK _ ?_
  clear hK K
  (try simp only [Act.put, List.setIfInBounds_toArray, List.set_cons_zero, List.set_cons_succ])
  refine wpQuiet_nil_h hlq ?_
  clear hlq lq
  intro w' hC'
  go_wp2_with fail
  go_ret
  exact ⟨rfl, hC'.1⟩
set_option maxRecDepth 100000 in
set_option maxHeartbeats 400000 in
/-- cmp.Or of two. -/
theorem or_any {w : World} {g : Nat} {x y : Int} (hg : w.heap[g]? = some (.cells #[.int .i64 x, .int .i64 y] 3 (0, 0))) : Calls Tryz.prog 109 #[.slice (some ⟨g, 0, none⟩) 2 2] w fun e w' => e = .returned (.int .i64 (or2 x y)) ∧ w' = w := by
  have hc : ∀ (i : Nat) (v : Int), [x, y][i]? = some v → w.cell? ⟨g, i, none⟩ = some (.int .i64 v) := fun i v hv => (row_cell hg).trans (by
    match i, hv with
    | 0, h => cases h; rfl
    | 1, h => cases h; rfl)
  clear hg
  replace hc := Lib.hid hc
  go_enter Tryz.func109, Tryz.ntmps109
  go_wp2_with fail
  go_loop [8] (fun vi => ∃ i : Nat, vi = .int .i64 i ∧ i ≤ 2 ∧ Hid (∀ (j : Nat) (v : Int), j < i → [x, y][j]? = some v → v = 0)) (fun vi => 2 - (intOf vi).toNat)
  case atStart => exact ⟨0, rfl, by omega, fun j v h => by omega⟩
  case round =>
    obtain ⟨i, rfl, hi, hall⟩ := hrel
    by_cases hlt : i < 2
    · obtain ⟨v, hv⟩ := get_some (l := [x, y]) (j := i) hlt
      have cv := hc.out i v hv
      by_cases h0 : v = 0
      · have hall2 : Hid (∀ (j : Nat) (u : Int), j < i + 1 → [x, y][j]? = some u → u = 0) := Lib.hid (fun j u hj hu => by
          by_cases hji : j = i
          · subst hji; rw [hv] at hu; cases hu; exact h0
          · exact hall.out j u (by omega) hu)
        rw [h0] at cv
        clear hv h0
        go_wp2_with fail
        exact ⟨⟨i + 1, by go_num, by omega, hall2⟩, by simp [intOf]; omega⟩
      · have hr : or2 x y = v := by
          unfold or2
          match i, hlt, hv, hall.out with
          | 0, _, hv, _ => cases hv; rw [if_neg h0]
          | 1, _, hv, ha => cases hv; rw [if_pos (ha 0 x (by omega) rfl)]
        replace hr := Lib.hid hr
        have hb : (v == 0) = false := by simpa using h0
        replace h0 := Lib.hid h0
        clear hv
        go_wp2_with fail
        go_ret
        exact ⟨by rw [hr.out]; rfl, rfl⟩
    · obtain rfl : i = 2 := by omega
      have hr : or2 x y = 0 := by
        unfold or2
        rw [if_pos (hall.out 0 x (by omega) rfl)]
        exact hall.out 1 y (by omega) rfl
      replace hr := Lib.hid hr
      go_wp2_with fail
      go_ret
      exact ⟨by rw [hr.out]; rfl, rfl⟩
theorem cmpI {w : World} (x y : Int) : Calls Tryz.prog 110 #[.int .i64 x, .int .i64 y] w fun e w' => e = .returned (.int .i64 (Lib.compareInt x y)) ∧ w' = w := Tryz.cmp_Compare_int x y w
set_option maxRecDepth 100000 in
set_option maxHeartbeats 1600000 in
/-- ComparePrefix. -/
theorem cmpP_any {w : World} {p q : Pf} (hp : p.ok) (hq : q.ok) : Calls Tryz.prog 42 #[vPf p, vPf q] w fun e w' => e = .returned (.int .i64 (cmpP p q)) ∧ Below w.heap.size w w' := by
  have hb := Bx.start2 w (oP p) (oP q)
  replace hp := Lib.hid hp
  replace hq := Lib.hid hq
  unfold vPf
  go_enter Tryz.func42, Tryz.ntmps42
  go_wp2_with fail
  refine wp_region_held_drew (S := (Bx w w.heap.size [(w.heap.size, oP p), (w.heap.size + 1, oP q)])) (by kernel_rfl) (Bx.drew hb) (fun hHeld => ?_)
  refine wpAnyH_take (i := 0) (oi := { dst := (some 5), op := (Op.fieldAddr 55 (Operand.tmp 2) 0), type := 0, pos := "addr.go:151", after := #[], guard := none }) (v := ?_) rfl (by kernel_rfl) (by kernel_rfl) (by kernel_rfl) (fun _ _ _ h => h) (Or.inl ⟨by rfl, ?_⟩) (by assumption) ?_
  rotate_left
  · intro w hSw
    (try dsimp only at hSw)
    go_simp
    with_reducible rfl
  (try simp only [Act.put, List.setIfInBounds_toArray, List.set_cons_zero, List.set_cons_succ])
  refine wpAnyH_take (i := 1) (oi := { dst := (some 6), op := (Op.load 42 (Operand.tmp 5)), type := 42, pos := "addr.go:151", after := #[{ on := 0, ground := Ground.data }], guard := none }) (v := vA p.a) rfl (by kernel_rfl) (by kernel_rfl) (by kernel_rfl) (fun _ _ _ h => h) (Or.inl ⟨by rfl, fun W hW => ?_⟩) (by assumption) ?_
  · obtain ⟨q1, q2, q3⟩ := BoxP.run hW.2.1.1 hp.out.1
    exact exec_load 42 _ rfl rfl q1
  (try simp only [Act.put, List.setIfInBounds_toArray, List.set_cons_zero, List.set_cons_succ])
  refine wpAnyH_take (i := 2) (oi := { dst := (some 7), op := (Op.fieldAddr 55 (Operand.tmp 3) 0), type := 0, pos := "addr.go:151", after := #[], guard := none }) (v := ?_) rfl (by kernel_rfl) (by kernel_rfl) (by kernel_rfl) (fun _ _ _ h => h) (Or.inl ⟨by rfl, ?_⟩) (by assumption) ?_
  rotate_left
  · intro w hSw
    (try dsimp only at hSw)
    go_simp
    with_reducible rfl
  (try simp only [Act.put, List.setIfInBounds_toArray, List.set_cons_zero, List.set_cons_succ])
  refine wpAnyH_take (i := 3) (oi := { dst := (some 8), op := (Op.load 42 (Operand.tmp 7)), type := 42, pos := "addr.go:151", after := #[{ on := 2, ground := Ground.data }], guard := none }) (v := vA q.a) rfl (by kernel_rfl) (by kernel_rfl) (by kernel_rfl) (fun _ _ _ h => h) (Or.inl ⟨by rfl, fun W hW => ?_⟩) (by assumption) ?_
  · obtain ⟨q1, q2, q3⟩ := BoxP.run hW.2.1.2.1 hq.out.1
    exact exec_load 42 _ rfl rfl q1
  (try simp only [Act.put, List.setIfInBounds_toArray, List.set_cons_zero, List.set_cons_succ])
  refine wpAnyH_take (i := 5) (oi := { dst := (some 10), op := (Op.fieldAddr 55 (Operand.tmp 2) 1), type := 0, pos := "addr.go:151", after := #[], guard := none }) (v := ?_) rfl (by kernel_rfl) (by kernel_rfl) (by kernel_rfl) (fun _ _ _ h => h) (Or.inl ⟨by rfl, ?_⟩) (by assumption) ?_
  rotate_left
  · intro w hSw
    (try dsimp only at hSw)
    go_simp
    with_reducible rfl
  (try simp only [Act.put, List.setIfInBounds_toArray, List.set_cons_zero, List.set_cons_succ])
  refine wpAnyH_take (i := 6) (oi := { dst := (some 11), op := (Op.load 3 (Operand.tmp 10)), type := 3, pos := "addr.go:151", after := #[{ on := 5, ground := Ground.data }], guard := none }) (v := .int .i64 p.n) rfl (by kernel_rfl) (by kernel_rfl) (by kernel_rfl) (fun _ _ _ h => h) (Or.inl ⟨by rfl, fun W hW => ?_⟩) (by assumption) ?_
  · obtain ⟨q1, q2, q3⟩ := BoxP.run hW.2.1.1 hp.out.1
    go_simp
  (try simp only [Act.put, List.setIfInBounds_toArray, List.set_cons_zero, List.set_cons_succ])
  refine wpAnyH_take (i := 7) (oi := { dst := (some 12), op := (Op.fieldAddr 55 (Operand.tmp 3) 1), type := 0, pos := "addr.go:151", after := #[], guard := none }) (v := ?_) rfl (by kernel_rfl) (by kernel_rfl) (by kernel_rfl) (fun _ _ _ h => h) (Or.inl ⟨by rfl, ?_⟩) (by assumption) ?_
  rotate_left
  · intro w hSw
    (try dsimp only at hSw)
    go_simp
    with_reducible rfl
  (try simp only [Act.put, List.setIfInBounds_toArray, List.set_cons_zero, List.set_cons_succ])
  refine wpAnyH_take (i := 8) (oi := { dst := (some 13), op := (Op.load 3 (Operand.tmp 12)), type := 3, pos := "addr.go:151", after := #[{ on := 7, ground := Ground.data }], guard := none }) (v := .int .i64 q.n) rfl (by kernel_rfl) (by kernel_rfl) (by kernel_rfl) (fun _ _ _ h => h) (Or.inl ⟨by rfl, fun W hW => ?_⟩) (by assumption) ?_
  · obtain ⟨q1, q2, q3⟩ := BoxP.run hW.2.1.2.1 hq.out.1
    go_simp
  (try simp only [Act.put, List.setIfInBounds_toArray, List.set_cons_zero, List.set_cons_succ])
  refine wpAnyH_ready (rs := [4]) (by kernel_rfl) (by simp) ?_
  refine AllReadyH.cons (o := { dst := (some 9), op := (Op.call { callee := (Callee.value (Operand.func 43)), args := #[(Operand.tmp 6), (Operand.tmp 8)], argTypes := #[42, 42] }), type := 3, pos := "addr.go:151", after := #[{ on := 1, ground := Ground.data }, { on := 3, ground := Ground.data }], guard := none }) rfl (fun K hK => ?_) AllReadyH.nil
  go_simp
  refine (cmp_any hp.out.1 hq.out.1).mono ?_
  rintro e w2 ⟨rfl, bel⟩
  refine hK.out _ _ ?_ (fun hHeld => ?_)
  · exact hHeld.go bel
  clear hK K
  (try simp only [Act.put, List.setIfInBounds_toArray, List.set_cons_zero, List.set_cons_succ])
  refine wpAnyH_ready (rs := [9]) (by kernel_rfl) (by simp) ?_
  refine AllReadyH.cons (o := { dst := (some 14), op := (Op.call { callee := (Callee.value (Operand.func 110)), args := #[(Operand.tmp 11), (Operand.tmp 13)], argTypes := #[3, 3] }), type := 3, pos := "addr.go:151", after := #[{ on := 6, ground := Ground.data }, { on := 8, ground := Ground.data }, { on := 4, ground := Ground.chain }], guard := none }) rfl (fun K hK => ?_) AllReadyH.nil
  go_simp
  refine (cmpI p.n q.n).mono ?_
  rintro e w2 ⟨rfl, rfl⟩
  refine hK.out _ _ ?_ (fun hHeld => ?_)
  · exact hHeld
  clear hK K
  (try simp only [Act.put, List.setIfInBounds_toArray, List.set_cons_zero, List.set_cons_succ])
  refine wpAnyH_ready (rs := [10]) (by kernel_rfl) (by simp) ?_
  refine AllReadyH.cons (o := { dst := (some 15), op := (Op.buildSlice 188 2 #[(0, (Operand.tmp 9)), (1, (Operand.tmp 14))]), type := 188, pos := "addr.go:151", after := #[{ on := 4, ground := Ground.data }, { on := 9, ground := Ground.data }], guard := none }) rfl (fun K hK => ?_) AllReadyH.nil
  go_simp
  refine hK.out _ _ ?_ (fun hHeld => ?_)
  · exact hHeld.go ((Below.refl _ _).alloc (Nat.le_refl _) _)
  clear hK K
  (try simp only [Act.put, List.setIfInBounds_toArray, List.set_cons_zero, List.set_cons_succ])
  refine wpAnyH_ready (rs := [11]) (by kernel_rfl) (by simp) ?_
  refine AllReadyH.cons (o := { dst := (some 16), op := (Op.call { callee := (Callee.value (Operand.func 109)), args := #[(Operand.tmp 15)], argTypes := #[188] }), type := 3, pos := "addr.go:151", after := #[{ on := 10, ground := Ground.data }, { on := 9, ground := Ground.chain }], guard := none }) rfl (fun K hK => ?_) AllReadyH.nil
  go_simp
  refine (or_any (box1 _ _)).mono ?_
  rintro e w3 ⟨rfl, rfl⟩
  refine hK.out _ _ ?_ (fun hHeld => ?_)
  · exact hHeld
  clear hK K
  (try simp only [Act.put, List.setIfInBounds_toArray, List.set_cons_zero, List.set_cons_succ])
  refine wpAnyH_take (i := 12) (oi := { dst := (some 4), op := (Op.assign (Operand.tmp 16)), type := 3, pos := "addr.go:151", after := #[{ on := 11, ground := Ground.data }, { on := 11, ground := Ground.chain }, { on := 0, ground := Ground.phase }, { on := 1, ground := Ground.phase }, { on := 2, ground := Ground.phase }, { on := 3, ground := Ground.phase }, { on := 4, ground := Ground.phase }, { on := 5, ground := Ground.phase }, { on := 6, ground := Ground.phase }, { on := 7, ground := Ground.phase }, { on := 8, ground := Ground.phase }, { on := 9, ground := Ground.phase }, { on := 10, ground := Ground.phase }, { on := 11, ground := Ground.phase }], guard := none }) (v := ?_) rfl (by kernel_rfl) (by kernel_rfl) (by kernel_rfl) (fun _ _ _ h => h) (Or.inl ⟨by rfl, ?_⟩) (by assumption) ?_
  rotate_left
  · intro w hSw
    (try dsimp only at hSw)
    go_simp
    with_reducible rfl
  (try simp only [Act.put, List.setIfInBounds_toArray, List.set_cons_zero, List.set_cons_succ])
  refine wpAnyH_done (by kernel_rfl) ?_ _
  go_wp2_with fail
  go_ret
  exact ⟨rfl, hHeld.1⟩
set_option maxRecDepth 100000 in
set_option maxHeartbeats 1600000 in
/-- ComparePair. -/
theorem cmpPP_any {w : World} {p q : Pr} (hp : p.fit) (hq : q.fit) : Calls Tryz.prog 41 #[vPP p, vPP q] w fun e w' => e = .returned (.int .i64 (cmpPP p q)) ∧ Below w.heap.size w w' := by
  have hb := Bx.start2 w (oPP p) (oPP q)
  replace hp := Lib.hid hp
  replace hq := Lib.hid hq
  unfold vPP
  go_enter Tryz.func41, Tryz.ntmps41
  go_wp2_with fail
  refine wp_region_held_drew (S := (Bx w w.heap.size [(w.heap.size, oPP p), (w.heap.size + 1, oPP q)])) (by kernel_rfl) (Bx.drew hb) (fun hHeld => ?_)
  refine wpAnyH_take (i := 0) (oi := { dst := (some 5), op := (Op.fieldAddr 57 (Operand.tmp 2) 0), type := 0, pos := "addr.go:156", after := #[], guard := none }) (v := ?_) rfl (by kernel_rfl) (by kernel_rfl) (by kernel_rfl) (fun _ _ _ h => h) (Or.inl ⟨by rfl, ?_⟩) (by assumption) ?_
  rotate_left
  · intro w hSw
    (try dsimp only at hSw)
    go_simp
    with_reducible rfl
  (try simp only [Act.put, List.setIfInBounds_toArray, List.set_cons_zero, List.set_cons_succ])
  refine wpAnyH_take (i := 1) (oi := { dst := (some 6), op := (Op.load 55 (Operand.tmp 5)), type := 55, pos := "addr.go:156", after := #[{ on := 0, ground := Ground.data }], guard := none }) (v := vPf p.d) rfl (by kernel_rfl) (by kernel_rfl) (by kernel_rfl) (fun _ _ _ h => h) (Or.inl ⟨by rfl, fun W hW => ?_⟩) (by assumption) ?_
  · obtain ⟨q1, q2, q3⟩ := BoxPP.run hW.2.1.1 hp.out
    exact exec_load 55 _ rfl rfl q1
  (try simp only [Act.put, List.setIfInBounds_toArray, List.set_cons_zero, List.set_cons_succ])
  refine wpAnyH_take (i := 2) (oi := { dst := (some 7), op := (Op.fieldAddr 57 (Operand.tmp 3) 0), type := 0, pos := "addr.go:156", after := #[], guard := none }) (v := ?_) rfl (by kernel_rfl) (by kernel_rfl) (by kernel_rfl) (fun _ _ _ h => h) (Or.inl ⟨by rfl, ?_⟩) (by assumption) ?_
  rotate_left
  · intro w hSw
    (try dsimp only at hSw)
    go_simp
    with_reducible rfl
  (try simp only [Act.put, List.setIfInBounds_toArray, List.set_cons_zero, List.set_cons_succ])
  refine wpAnyH_take (i := 3) (oi := { dst := (some 8), op := (Op.load 55 (Operand.tmp 7)), type := 55, pos := "addr.go:156", after := #[{ on := 2, ground := Ground.data }], guard := none }) (v := vPf q.d) rfl (by kernel_rfl) (by kernel_rfl) (by kernel_rfl) (fun _ _ _ h => h) (Or.inl ⟨by rfl, fun W hW => ?_⟩) (by assumption) ?_
  · obtain ⟨q1, q2, q3⟩ := BoxPP.run hW.2.1.2.1 hq.out
    exact exec_load 55 _ rfl rfl q1
  (try simp only [Act.put, List.setIfInBounds_toArray, List.set_cons_zero, List.set_cons_succ])
  refine wpAnyH_take (i := 5) (oi := { dst := (some 10), op := (Op.fieldAddr 57 (Operand.tmp 2) 1), type := 0, pos := "addr.go:156", after := #[], guard := none }) (v := ?_) rfl (by kernel_rfl) (by kernel_rfl) (by kernel_rfl) (fun _ _ _ h => h) (Or.inl ⟨by rfl, ?_⟩) (by assumption) ?_
  rotate_left
  · intro w hSw
    (try dsimp only at hSw)
    go_simp
    with_reducible rfl
  (try simp only [Act.put, List.setIfInBounds_toArray, List.set_cons_zero, List.set_cons_succ])
  refine wpAnyH_take (i := 6) (oi := { dst := (some 11), op := (Op.load 55 (Operand.tmp 10)), type := 55, pos := "addr.go:156", after := #[{ on := 5, ground := Ground.data }], guard := none }) (v := vPf p.s) rfl (by kernel_rfl) (by kernel_rfl) (by kernel_rfl) (fun _ _ _ h => h) (Or.inl ⟨by rfl, fun W hW => ?_⟩) (by assumption) ?_
  · obtain ⟨q1, q2, q3⟩ := BoxPP.run hW.2.1.1 hp.out
    exact exec_load 55 _ rfl rfl q2
  (try simp only [Act.put, List.setIfInBounds_toArray, List.set_cons_zero, List.set_cons_succ])
  refine wpAnyH_take (i := 7) (oi := { dst := (some 12), op := (Op.fieldAddr 57 (Operand.tmp 3) 1), type := 0, pos := "addr.go:156", after := #[], guard := none }) (v := ?_) rfl (by kernel_rfl) (by kernel_rfl) (by kernel_rfl) (fun _ _ _ h => h) (Or.inl ⟨by rfl, ?_⟩) (by assumption) ?_
  rotate_left
  · intro w hSw
    (try dsimp only at hSw)
    go_simp
    with_reducible rfl
  (try simp only [Act.put, List.setIfInBounds_toArray, List.set_cons_zero, List.set_cons_succ])
  refine wpAnyH_take (i := 8) (oi := { dst := (some 13), op := (Op.load 55 (Operand.tmp 12)), type := 55, pos := "addr.go:156", after := #[{ on := 7, ground := Ground.data }], guard := none }) (v := vPf q.s) rfl (by kernel_rfl) (by kernel_rfl) (by kernel_rfl) (fun _ _ _ h => h) (Or.inl ⟨by rfl, fun W hW => ?_⟩) (by assumption) ?_
  · obtain ⟨q1, q2, q3⟩ := BoxPP.run hW.2.1.2.1 hq.out
    exact exec_load 55 _ rfl rfl q2
  (try simp only [Act.put, List.setIfInBounds_toArray, List.set_cons_zero, List.set_cons_succ])
  refine wpAnyH_ready (rs := [4]) (by kernel_rfl) (by simp) ?_
  refine AllReadyH.cons (o := { dst := (some 9), op := (Op.call { callee := (Callee.value (Operand.func 42)), args := #[(Operand.tmp 6), (Operand.tmp 8)], argTypes := #[55, 55] }), type := 3, pos := "addr.go:156", after := #[{ on := 1, ground := Ground.data }, { on := 3, ground := Ground.data }], guard := none }) rfl (fun K hK => ?_) AllReadyH.nil
  go_simp
  refine (cmpP_any hp.out.1 hq.out.1).mono ?_
  rintro e w2 ⟨rfl, bel⟩
  refine hK.out _ _ ?_ (fun hHeld => ?_)
  · exact hHeld.go bel
  clear hK K
  (try simp only [Act.put, List.setIfInBounds_toArray, List.set_cons_zero, List.set_cons_succ])
  refine wpAnyH_ready (rs := [9]) (by kernel_rfl) (by simp) ?_
  refine AllReadyH.cons (o := { dst := (some 14), op := (Op.call { callee := (Callee.value (Operand.func 42)), args := #[(Operand.tmp 11), (Operand.tmp 13)], argTypes := #[55, 55] }), type := 3, pos := "addr.go:156", after := #[{ on := 6, ground := Ground.data }, { on := 8, ground := Ground.data }, { on := 4, ground := Ground.chain }], guard := none }) rfl (fun K hK => ?_) AllReadyH.nil
  go_simp
  refine (cmpP_any hp.out.2 hq.out.2).mono ?_
  rintro e w3 ⟨rfl, bel⟩
  refine hK.out _ _ ?_ (fun hHeld => ?_)
  · exact hHeld.go bel
  clear hK K
  (try simp only [Act.put, List.setIfInBounds_toArray, List.set_cons_zero, List.set_cons_succ])
  refine wpAnyH_ready (rs := [10]) (by kernel_rfl) (by simp) ?_
  refine AllReadyH.cons (o := { dst := (some 15), op := (Op.buildSlice 188 2 #[(0, (Operand.tmp 9)), (1, (Operand.tmp 14))]), type := 188, pos := "addr.go:156", after := #[{ on := 4, ground := Ground.data }, { on := 9, ground := Ground.data }], guard := none }) rfl (fun K hK => ?_) AllReadyH.nil
  go_simp
  refine hK.out _ _ ?_ (fun hHeld => ?_)
  · exact hHeld.go ((Below.refl _ _).alloc (Nat.le_refl _) _)
  clear hK K
  (try simp only [Act.put, List.setIfInBounds_toArray, List.set_cons_zero, List.set_cons_succ])
  refine wpAnyH_ready (rs := [11]) (by kernel_rfl) (by simp) ?_
  refine AllReadyH.cons (o := { dst := (some 16), op := (Op.call { callee := (Callee.value (Operand.func 109)), args := #[(Operand.tmp 15)], argTypes := #[188] }), type := 3, pos := "addr.go:156", after := #[{ on := 10, ground := Ground.data }, { on := 9, ground := Ground.chain }], guard := none }) rfl (fun K hK => ?_) AllReadyH.nil
  go_simp
  refine (or_any (box1 _ _)).mono ?_
  rintro e w4 ⟨rfl, rfl⟩
  refine hK.out _ _ ?_ (fun hHeld => ?_)
  · exact hHeld
  clear hK K
  (try simp only [Act.put, List.setIfInBounds_toArray, List.set_cons_zero, List.set_cons_succ])
  refine wpAnyH_take (i := 12) (oi := { dst := (some 4), op := (Op.assign (Operand.tmp 16)), type := 3, pos := "addr.go:156", after := #[{ on := 11, ground := Ground.data }, { on := 11, ground := Ground.chain }, { on := 0, ground := Ground.phase }, { on := 1, ground := Ground.phase }, { on := 2, ground := Ground.phase }, { on := 3, ground := Ground.phase }, { on := 4, ground := Ground.phase }, { on := 5, ground := Ground.phase }, { on := 6, ground := Ground.phase }, { on := 7, ground := Ground.phase }, { on := 8, ground := Ground.phase }, { on := 9, ground := Ground.phase }, { on := 10, ground := Ground.phase }, { on := 11, ground := Ground.phase }], guard := none }) (v := ?_) rfl (by kernel_rfl) (by kernel_rfl) (by kernel_rfl) (fun _ _ _ h => h) (Or.inl ⟨by rfl, ?_⟩) (by assumption) ?_
  rotate_left
  · intro w hSw
    (try dsimp only at hSw)
    go_simp
    with_reducible rfl
  (try simp only [Act.put, List.setIfInBounds_toArray, List.set_cons_zero, List.set_cons_succ])
  refine wpAnyH_done (by kernel_rfl) ?_ _
  go_wp2_with fail
  go_ret
  exact ⟨rfl, hHeld.1⟩
end Go.Proofs.YtnljjlaececnkaaGreatDoor
/-
  Print of an address of sixteen bytes that is no mapped one. Condition: the variables hold what their initialisers laid; an address is sixteen bytes.
-/
namespace Go.Proofs.YtnljjlaececnkaaGreatDoor
open Go.RowKit
set_option linter.unusedVariables false
set_option linter.unusedSimpArgs false
set_option maxRecDepth 100000 in
set_option maxHeartbeats 800000 in
theorem print6_any {w : World} (E : Env w) {a : List Int} (ha : isA a) (h6 : fam a = 6) : Calls Tryz.prog 34 #[vA a] w fun e w' => e = .returned (.string ⟨(groupedS a).toArray⟩) ∧ Below w.heap.size w w' := by
  have Ha := Lib.hid ha
  clear ha
  unfold vA
  go_enter Tryz.func34, Tryz.ntmps34
  go_wp2_with (refine wpList_quiet (C := Bx w w.heap.size [(w.heap.size, oA a)]) 3 (by rfl) (Bx.start1 w (oA a)) ?_)
  refine wpQuiet_hide ?_
  intro lq hlq
  refine wpQuiet_step_h hlq ?_
  clear hlq lq
  intro K lq hlq hK
  refine wanted_go (by rfl) ?_
  refine ⟨vA a, fun W hW => ?_, ?_⟩
  · have q1 := BoxA.run hW.2.1.1 Ha.out
    exact quiet_load 42 _ rfl rfl q1
  refine hK _ ?_
  clear hK K
  (try simp only [Act.put, List.setIfInBounds_toArray, List.set_cons_zero, List.set_cons_succ])
  refine wpQuiet_step_h hlq ?_
  clear hlq lq
  intro K lq hlq hK
  refine wanted_go (by rfl) ?_
  refine ⟨.int .i64 6, fun W hW => ?_, ?_⟩
  · go_simp
    refine (fam_any Ha.out).mono fun e W2 hc2 => ⟨by rw [hc2.1, h6], hW.go hc2.2⟩
  refine hK _ ?_
  clear hK K
  (try simp only [Act.put, List.setIfInBounds_toArray, List.set_cons_zero, List.set_cons_succ])
  refine wpQuiet_step_h hlq ?_
  clear hlq lq
  intro K lq hlq hK
  refine wanted_go (by rfl) ?_
  refine ⟨?_, fun W hW => ?_, ?_⟩
  rotate_left
  · have q1 := BoxA.run hW.2.1.1 Ha.out
    go_simp
    with_reducible rfl
  refine hK _ ?_
  clear hK K
  (try simp only [Act.put, List.setIfInBounds_toArray, List.set_cons_zero, List.set_cons_succ])
  refine wpQuiet_nil_h hlq ?_
  clear hlq lq
  intro w' hC'
  go_wp2_with (refine wpList_quiet (C := Bx w w.heap.size [(w.heap.size, oA a)]) 3 (by rfl) (hC') ?_)
  refine wpQuiet_hide ?_
  intro lq hlq
  refine wpQuiet_step_h hlq ?_
  clear hlq lq
  intro K lq hlq hK
  refine wanted_go (by rfl) ?_
  refine ⟨vA a, fun W hW => ?_, ?_⟩
  · have q1 := BoxA.run hW.2.1.1 Ha.out
    exact quiet_load 42 _ rfl rfl q1
  refine hK _ ?_
  clear hK K
  (try simp only [Act.put, List.setIfInBounds_toArray, List.set_cons_zero, List.set_cons_succ])
  refine wpQuiet_step_h hlq ?_
  clear hlq lq
  intro K lq hlq hK
  refine wanted_go (by rfl) ?_
  refine ⟨.string ⟨(groupedS a).toArray⟩, fun W hW => ?_, ?_⟩
  · go_simp
    refine (grouped_any (E.go hW.1).2 Ha.out).mono fun e W2 hc2 => ⟨hc2.1, hW.go hc2.2⟩
  refine hK _ ?_
  clear hK K
  (try simp only [Act.put, List.setIfInBounds_toArray, List.set_cons_zero, List.set_cons_succ])
  refine wpQuiet_step_h hlq ?_
  clear hlq lq
  intro K lq hlq hK
  refine wanted_go (by rfl) ?_
  refine ⟨?_, fun W hW => ?_, ?_⟩
  rotate_left
  · have q1 := BoxA.run hW.2.1.1 Ha.out
    go_simp
    with_reducible rfl
  refine hK _ ?_
  clear hK K
  (try simp only [Act.put, List.setIfInBounds_toArray, List.set_cons_zero, List.set_cons_succ])
  refine wpQuiet_nil_h hlq ?_
  clear hlq lq
  intro w' hC'
  go_wp2_with fail
  go_ret
  exact ⟨rfl, hC'.1⟩
end Go.Proofs.YtnljjlaececnkaaGreatDoor
/-
  ParsePair of a text with no space that is right. Condition: the variables hold what their initialisers laid.
-/
namespace Go.Proofs.YtnljjlaececnkaaGreatDoor
open Go.RowKit
set_option linter.unusedVariables false
set_option linter.unusedSimpArgs false
theorem exec_build2 {P : Program} {o : Oper} {a : Act} {w : World} {t : TypeId} {i j : Nat} {x y : Operand} {vx vy : Value} (ho : o.op = .build t #[(i, x), (j, y)]) (hx : a.eval x = vx) (hy : a.eval y = vy) {cells : Array Value} (h : P.built t [(i, vx), (j, vy)] = some cells) : (execOp a.eval o).run P w = .ok (.value (.agg cells)) w := by
  have hr := run_build w t #[(i, vx), (j, vy)] cells h
  unfold execOp
  simp only [ho, List.map_toArray, List.map_cons, List.map_nil, hx, hy, Sem.run_bind, hr, Sem.run_pure, Result.andThen_ok]
theorem AllB.lt {W : World} : ∀ {l : List (Nat × Obj)}, AllB W l → ∀ x ∈ l, x.1 < W.heap.size
  | [], _, x, h => by simp at h
  | y :: l, ⟨h, r⟩, x, hx => by
    rcases List.mem_cons.1 hx with rfl | hx
    · exact lt_of_obj h
    · exact AllB.lt r x hx
theorem Bx.ne {w W : World} {N : Nat} {l : List (Nat × Obj)} (h : Bx w N l W) : ∀ x ∈ l, x.1 ≠ W.heap.size := fun x hx => Nat.ne_of_lt (AllB.lt h.2.1 x hx)
theorem Bx.alloc' {w W : World} {N g : Nat} {l : List (Nat × Obj)} (h : Bx w N l W) (o : Obj) (hg : W.heap.size = g) : Bx w N ((g, o) :: l) (W.alloc o) ∧ (∀ x ∈ l, x.1 ≠ g) ∧ N ≤ g := by
  subst hg; exact ⟨h.alloc o, h.ne, h.2.2⟩
def zeroPr : Pr := ⟨zeroP, zeroP⟩
theorem any_ok (f : Int) : (anyP f).ok := by
  unfold anyP; split
  · exact ⟨mapA_ok, rfl⟩
  · exact zeroP_ok
theorem info57 {p : Pr} (hp : p.fit) : (Tryz.prog.info? 57).map (·.size) = some (pCs p.d.a p.d.n ++ pCs p.s.a p.s.n).toArray.size := by
  rw [size57]; simp [pCs_len hp.1.1, pCs_len hp.2.1]
theorem pp_one (p : Pr) : (pCs p.d.a p.d.n ++ pCs p.s.a p.s.n).toArray.all (·.oneCell') = true := by
  have h1 := pCs_one p.d.a p.d.n
  have h2 := pCs_one p.s.a p.s.n
  simp at h1 h2 ⊢
  exact ⟨h1, h2⟩
theorem pp_size {p : Pr} (hp : p.fit) : (pCs p.d.a p.d.n ++ pCs p.s.a p.s.n).toArray.size = 34 := by simp [pCs_len hp.1.1, pCs_len hp.2.1]
theorem zeroPr_fit : zeroPr.fit := ⟨zeroP_ok, zeroP_ok⟩
set_option maxRecDepth 100000 in
set_option maxHeartbeats 1600000 in
theorem pair_one {w : World} (E : Env w) {s : ByteArray} (hs : s.size < 4294967281) (hsp : pieces s ⟨#[32]⟩ = [s]) {p : Pf} (hp : p.ok) (hpp : parsePS s = (p, 0)) (hc : chkPP ⟨p, anyP (pfam p)⟩ = true) : Calls Tryz.prog 58 #[.string s] w fun e w' => e = .returned (.tuple #[vPP ⟨p, anyP (pfam p)⟩, .int .i64 0]) ∧ Below w.heap.size w w' := by
  have Hp := Lib.hid hp
  have Hc := Lib.hid hc
  have hq := Lib.hid (any_ok (pfam p))
  have Hpp := Lib.hid hpp
  clear hp hc hpp
  have B0 := Bx.start1 w (oPP zeroPr)
  have E0 := (E.go B0.1).2
  go_enter Tryz.func58, Tryz.ntmps58
  have hcall : ∀ {W : World}, Env W → Calls Tryz.prog 56 #[.string s] W fun e w' => e = .returned (.tuple #[.agg (pCs p.a p.n).toArray, .int .i64 0]) ∧ Below W.heap.size W w' := fun EW => (pp_any EW hs).mono fun e w' h => ⟨by have := h.1; unfold PPR at this; rw [this, Hpp.out]; rfl, h.2⟩
  have hchk : ∀ {W : World}, Calls Tryz.prog 60 #[.agg (pCs p.a p.n ++ pCs (anyP (pfam p)).a (anyP (pfam p)).n).toArray] W fun e w' => e = .returned (.int .i64 0) ∧ Below W.heap.size W w' := fun {W} => (chkPP_any (p := ⟨p, anyP (pfam p)⟩) ⟨Hp.out, hq.out⟩).mono fun e w' h => ⟨by rw [h.1, Hc.out]; rfl, h.2⟩
  have B1 := B0.alloc (.cells #[.string s] 9)
  have E1 := (E.go B1.1).2
  go_wp2_with (first
    | (go_at_call 99; refine (split_n (n := 1) E0 hs (by decide) hsp rfl).mono ?_; rintro e w1 ⟨rfl, rfl⟩)
    | (go_at_call 56; refine (hcall E1).mono ?_; clear hcall; rintro e w3 ⟨rfl, bel⟩; have B3 := B1.go bel; have B4 := B3.alloc (oP p); clear bel)
    | (refine wpList_store_new rfl 55 (.tmp 5) (.tmp 30) rfl rfl rfl (info55 Hp.out.1 _) (by rw [pCs_size Hp.out.1] <;> rfl) (pCs_one _ _) ?_))
  clear E0 E1 B0 B1 B3
  refine wp_region_held_drew (S := (Bx w w.heap.size [(w3.heap.size, oP p), (w.heap.size, oPP zeroPr)])) (by kernel_rfl) ((show Bx w w.heap.size [(w3.heap.size, oP p), (w.heap.size, oPP zeroPr)] _ from Bx.drew ⟨B4.1, ⟨B4.2.1.1, B4.2.1.2.2.1, trivial⟩, B4.2.2⟩)) (fun hHeld => ?_)
  refine wpAnyH_take (i := 0) (oi := { dst := (some 32), op := (Op.load 55 (Operand.tmp 5)), type := 55, pos := "addr.go:281", after := #[], guard := none }) (v := vPf p) rfl (by kernel_rfl) (by kernel_rfl) (by kernel_rfl) (fun _ _ _ h => h) (Or.inl ⟨by rfl, fun W hW => ?_⟩) (by assumption) ?_
  · obtain ⟨q1, q2, q3⟩ := BoxP.run hW.2.1.1 Hp.out.1
    exact exec_load 55 _ rfl rfl q3
  (try simp only [Act.put, List.setIfInBounds_toArray, List.set_cons_zero, List.set_cons_succ])
  refine wpAnyH_take (i := 1) (oi := { dst := (some 33), op := (Op.load 55 (Operand.tmp 5)), type := 55, pos := "addr.go:281", after := #[], guard := none }) (v := vPf p) rfl (by kernel_rfl) (by kernel_rfl) (by kernel_rfl) (fun _ _ _ h => h) (Or.inl ⟨by rfl, fun W hW => ?_⟩) (by assumption) ?_
  · obtain ⟨q1, q2, q3⟩ := BoxP.run hW.2.1.1 Hp.out.1
    exact exec_load 55 _ rfl rfl q3
  (try simp only [Act.put, List.setIfInBounds_toArray, List.set_cons_zero, List.set_cons_succ])
  refine wpAnyH_ready (rs := [2, 5]) (by kernel_rfl) (by simp) ?_
  refine AllReadyH.cons (o := { dst := (some 34), op := (Op.call { callee := (Callee.value (Operand.func 54)), args := #[(Operand.tmp 33)], argTypes := #[55] }), type := 3, pos := "addr.go:281", after := #[{ on := 1, ground := Ground.data }], guard := none }) rfl (fun K hK => ?_) (AllReadyH.cons (o := { dst := (some 7), op := (Op.alloc 57), type := 0, pos := "addr.go:281", after := #[], guard := none }) rfl (fun K hK => ?_) AllReadyH.nil)
  · go_simp
    refine (pfam_any Hp.out).mono ?_
    rintro e wA ⟨rfl, bel⟩
    refine hK.out _ _ ?_ (fun hHeld => ?_)
    · exact hHeld.go bel
    clear hK K
    (try simp only [Act.put, List.setIfInBounds_toArray, List.set_cons_zero, List.set_cons_succ])
    refine wpAnyH_ready (rs := [3, 5]) (by kernel_rfl) (by simp) ?_
    refine AllReadyH.cons (o := { dst := (some 35), op := (Op.call { callee := (Callee.value (Operand.func 55)), args := #[(Operand.tmp 34)], argTypes := #[3] }), type := 55, pos := "addr.go:281", after := #[{ on := 2, ground := Ground.data }, { on := 2, ground := Ground.chain }], guard := none }) rfl (fun K hK => ?_) (AllReadyH.cons (o := { dst := (some 7), op := (Op.alloc 57), type := 0, pos := "addr.go:281", after := #[], guard := none }) rfl (fun K hK => ?_) AllReadyH.nil)
    · go_simp
      refine (any_any (pfam p)).mono ?_
      rintro e wB ⟨rfl, bel⟩
      refine hK.out _ _ ?_ (fun hHeld => ?_)
      · exact hHeld.go bel
      clear hK K
      (try simp only [Act.put, List.setIfInBounds_toArray, List.set_cons_zero, List.set_cons_succ])
      refine wpAnyH_take (i := 4) (oi := { dst := (some 36), op := (Op.build 57 #[(0, (Operand.tmp 32)), (1, (Operand.tmp 35))]), type := 57, pos := "addr.go:281", after := #[{ on := 0, ground := Ground.data }, { on := 3, ground := Ground.data }], guard := none }) (v := .agg (pCs p.a p.n ++ pCs (anyP (pfam p)).a (anyP (pfam p)).n).toArray) rfl (by kernel_rfl) (by kernel_rfl) (by kernel_rfl) (fun _ _ _ h => h) (Or.inl ⟨by rfl, fun W hW => ?_⟩) (by assumption) ?_
      · exact exec_build2 (x := .tmp 32) (y := .tmp 35) rfl rfl rfl (built57 Hp.out.1 hq.out.1)
      (try simp only [Act.put, List.setIfInBounds_toArray, List.set_cons_zero, List.set_cons_succ])
      refine wpAnyH_ready (rs := [5]) (by kernel_rfl) (by simp) ?_
      refine AllReadyH.cons (o := { dst := (some 7), op := (Op.alloc 57), type := 0, pos := "addr.go:281", after := #[], guard := none }) rfl (fun K hK => ?_) AllReadyH.nil
      obtain ⟨hZ, nZ, lZ⟩ := hHeld.alloc' (oPP zeroPr) rfl
      go_simp
      refine hK.out _ _ ?_ (fun hHeld => ?_)
      · exact hHeld.go ((Below.refl _ _).alloc (Nat.le_refl _) _)
      clear hK K
      (try simp only [Act.put, List.setIfInBounds_toArray, List.set_cons_zero, List.set_cons_succ])
      refine wpAnyH_ready (rs := [6]) (by kernel_rfl) (by simp) ?_
      refine AllReadyH.cons (o := { dst := none, op := (Op.store 57 (Operand.tmp 7) (Operand.tmp 36)), type := 0, pos := "addr.go:281", after := #[{ on := 5, ground := Ground.data }, { on := 4, ground := Ground.data }, { on := 3, ground := Ground.chain }, { on := 0, ground := Ground.phase }, { on := 1, ground := Ground.phase }, { on := 2, ground := Ground.phase }, { on := 3, ground := Ground.phase }, { on := 4, ground := Ground.phase }, { on := 5, ground := Ground.phase }], guard := none }) rfl (fun K hK => ?_) AllReadyH.nil
      have hF := hZ.set1 (pCs p.a p.n ++ pCs (anyP (pfam p)).a (anyP (pfam p)).n).toArray lZ nZ
      refine wanted_go (by rfl) ?_
      refine wp_store_row 57 (.tmp 7) (.tmp 36) rfl _ _ rfl rfl 57 _ hZ.2.1.1 (info57 (p := ⟨p, anyP (pfam p)⟩) ⟨Hp.out, hq.out⟩) ((pp_size zeroPr_fit).trans (pp_size (p := ⟨p, anyP (pfam p)⟩) ⟨Hp.out, hq.out⟩).symm) (pp_one ⟨p, anyP (pfam p)⟩) ?_
      refine hK.out _ _ ?_ (fun hHeld => ?_)
      · exact ⟨hF.1, hF.2.1.2, hF.2.2⟩
      clear hK K
      (try simp only [Act.put, List.setIfInBounds_toArray, List.set_cons_zero, List.set_cons_succ])
      refine wpAnyH_done (by kernel_rfl) ?_ _
      clear hHeld
      go_wp2_with (first | (refine wpList_load_mid rfl 57 (.tmp 7) rfl _ 0 rfl _ _ (row_load hF.2.1.1) Tryz.underlying57 rfl (info57 (p := ⟨p, anyP (pfam p)⟩) ⟨Hp.out, hq.out⟩) ?_) | (go_at_call 60; refine hchk.mono ?_; clear hchk; rintro e w6 ⟨rfl, bel6⟩; have hG := hF.go bel6) | (refine wpList_load_mid rfl 57 (.tmp 7) rfl _ 0 rfl _ _ (row_load hG.2.1.1) Tryz.underlying57 rfl (info57 (p := ⟨p, anyP (pfam p)⟩) ⟨Hp.out, hq.out⟩) ?_) | (refine wpList_store_row rfl 57 (.tmp 2) (.tmp 60) rfl w.heap.size _ rfl rfl 57 _ hG.2.1.2.2.1 (info57 (p := ⟨p, anyP (pfam p)⟩) ⟨Hp.out, hq.out⟩) ((pp_size zeroPr_fit).trans (pp_size (p := ⟨p, anyP (pfam p)⟩) ⟨Hp.out, hq.out⟩).symm) (pp_one ⟨p, anyP (pfam p)⟩) ?_))
      refine bodyPost_ret (v := .tuple #[vPP ⟨p, anyP (pfam p)⟩, .int .i64 0]) ?_ rfl ⟨rfl, below_row hG.1 (Nat.le_refl _) _⟩
      exact results_cell_tmp rfl _ _ rfl (BoxPP.run (p := ⟨p, anyP (pfam p)⟩) (setRow_heap _ _ _ _ _ _ hG.2.1.2.2.1) ⟨Hp.out, hq.out⟩).2.2 rfl
    · obtain ⟨hZ, nZ, lZ⟩ := hHeld.alloc' (oPP zeroPr) rfl
      go_simp
      refine hK.out _ _ ?_ (fun hHeld => ?_)
      · exact hHeld.go ((Below.refl _ _).alloc (Nat.le_refl _) _)
      clear hK K
      (try simp only [Act.put, List.setIfInBounds_toArray, List.set_cons_zero, List.set_cons_succ])
      refine wpAnyH_ready (rs := [3]) (by kernel_rfl) (by simp) ?_
      refine AllReadyH.cons (o := { dst := (some 35), op := (Op.call { callee := (Callee.value (Operand.func 55)), args := #[(Operand.tmp 34)], argTypes := #[3] }), type := 55, pos := "addr.go:281", after := #[{ on := 2, ground := Ground.data }, { on := 2, ground := Ground.chain }], guard := none }) rfl (fun K hK => ?_) AllReadyH.nil
      go_simp
      refine (any_any (pfam p)).mono ?_
      rintro e wB ⟨rfl, bel⟩
      replace hZ := hZ.go bel
      refine hK.out _ _ ?_ (fun hHeld => ?_)
      · exact hHeld.go bel
      clear hK K
      (try simp only [Act.put, List.setIfInBounds_toArray, List.set_cons_zero, List.set_cons_succ])
      refine wpAnyH_take (i := 4) (oi := { dst := (some 36), op := (Op.build 57 #[(0, (Operand.tmp 32)), (1, (Operand.tmp 35))]), type := 57, pos := "addr.go:281", after := #[{ on := 0, ground := Ground.data }, { on := 3, ground := Ground.data }], guard := none }) (v := .agg (pCs p.a p.n ++ pCs (anyP (pfam p)).a (anyP (pfam p)).n).toArray) rfl (by kernel_rfl) (by kernel_rfl) (by kernel_rfl) (fun _ _ _ h => h) (Or.inl ⟨by rfl, fun W hW => ?_⟩) (by assumption) ?_
      · exact exec_build2 (x := .tmp 32) (y := .tmp 35) rfl rfl rfl (built57 Hp.out.1 hq.out.1)
      (try simp only [Act.put, List.setIfInBounds_toArray, List.set_cons_zero, List.set_cons_succ])
      refine wpAnyH_ready (rs := [6]) (by kernel_rfl) (by simp) ?_
      refine AllReadyH.cons (o := { dst := none, op := (Op.store 57 (Operand.tmp 7) (Operand.tmp 36)), type := 0, pos := "addr.go:281", after := #[{ on := 5, ground := Ground.data }, { on := 4, ground := Ground.data }, { on := 3, ground := Ground.chain }, { on := 0, ground := Ground.phase }, { on := 1, ground := Ground.phase }, { on := 2, ground := Ground.phase }, { on := 3, ground := Ground.phase }, { on := 4, ground := Ground.phase }, { on := 5, ground := Ground.phase }], guard := none }) rfl (fun K hK => ?_) AllReadyH.nil
      have hF := hZ.set1 (pCs p.a p.n ++ pCs (anyP (pfam p)).a (anyP (pfam p)).n).toArray lZ nZ
      refine wanted_go (by rfl) ?_
      refine wp_store_row 57 (.tmp 7) (.tmp 36) rfl _ _ rfl rfl 57 _ hZ.2.1.1 (info57 (p := ⟨p, anyP (pfam p)⟩) ⟨Hp.out, hq.out⟩) ((pp_size zeroPr_fit).trans (pp_size (p := ⟨p, anyP (pfam p)⟩) ⟨Hp.out, hq.out⟩).symm) (pp_one ⟨p, anyP (pfam p)⟩) ?_
      refine hK.out _ _ ?_ (fun hHeld => ?_)
      · exact ⟨hF.1, hF.2.1.2, hF.2.2⟩
      clear hK K
      (try simp only [Act.put, List.setIfInBounds_toArray, List.set_cons_zero, List.set_cons_succ])
      refine wpAnyH_done (by kernel_rfl) ?_ _
      clear hHeld
      go_wp2_with (first | (refine wpList_load_mid rfl 57 (.tmp 7) rfl _ 0 rfl _ _ (row_load hF.2.1.1) Tryz.underlying57 rfl (info57 (p := ⟨p, anyP (pfam p)⟩) ⟨Hp.out, hq.out⟩) ?_) | (go_at_call 60; refine hchk.mono ?_; clear hchk; rintro e w6 ⟨rfl, bel6⟩; have hG := hF.go bel6) | (refine wpList_load_mid rfl 57 (.tmp 7) rfl _ 0 rfl _ _ (row_load hG.2.1.1) Tryz.underlying57 rfl (info57 (p := ⟨p, anyP (pfam p)⟩) ⟨Hp.out, hq.out⟩) ?_) | (refine wpList_store_row rfl 57 (.tmp 2) (.tmp 60) rfl w.heap.size _ rfl rfl 57 _ hG.2.1.2.2.1 (info57 (p := ⟨p, anyP (pfam p)⟩) ⟨Hp.out, hq.out⟩) ((pp_size zeroPr_fit).trans (pp_size (p := ⟨p, anyP (pfam p)⟩) ⟨Hp.out, hq.out⟩).symm) (pp_one ⟨p, anyP (pfam p)⟩) ?_))
      refine bodyPost_ret (v := .tuple #[vPP ⟨p, anyP (pfam p)⟩, .int .i64 0]) ?_ rfl ⟨rfl, below_row hG.1 (Nat.le_refl _) _⟩
      exact results_cell_tmp rfl _ _ rfl (BoxPP.run (p := ⟨p, anyP (pfam p)⟩) (setRow_heap _ _ _ _ _ _ hG.2.1.2.2.1) ⟨Hp.out, hq.out⟩).2.2 rfl
  · obtain ⟨hZ, nZ, lZ⟩ := hHeld.alloc' (g := w3.heap.size + 1) (oPP zeroPr) (World.size_alloc _ _)
    go_simp
    refine hK.out _ _ ?_ (fun hHeld => ?_)
    · exact hHeld.go ((Below.refl _ _).alloc (Nat.le_refl _) _)
    clear hK K
    (try simp only [Act.put, List.setIfInBounds_toArray, List.set_cons_zero, List.set_cons_succ])
    refine wpAnyH_ready (rs := [2]) (by kernel_rfl) (by simp) ?_
    refine AllReadyH.cons (o := { dst := (some 34), op := (Op.call { callee := (Callee.value (Operand.func 54)), args := #[(Operand.tmp 33)], argTypes := #[55] }), type := 3, pos := "addr.go:281", after := #[{ on := 1, ground := Ground.data }], guard := none }) rfl (fun K hK => ?_) AllReadyH.nil
    go_simp
    refine (pfam_any Hp.out).mono ?_
    rintro e wA ⟨rfl, bel⟩
    replace hZ := hZ.go bel
    refine hK.out _ _ ?_ (fun hHeld => ?_)
    · exact hHeld.go bel
    clear hK K
    (try simp only [Act.put, List.setIfInBounds_toArray, List.set_cons_zero, List.set_cons_succ])
    refine wpAnyH_ready (rs := [3]) (by kernel_rfl) (by simp) ?_
    refine AllReadyH.cons (o := { dst := (some 35), op := (Op.call { callee := (Callee.value (Operand.func 55)), args := #[(Operand.tmp 34)], argTypes := #[3] }), type := 55, pos := "addr.go:281", after := #[{ on := 2, ground := Ground.data }, { on := 2, ground := Ground.chain }], guard := none }) rfl (fun K hK => ?_) AllReadyH.nil
    go_simp
    refine (any_any (pfam p)).mono ?_
    rintro e wB ⟨rfl, bel⟩
    replace hZ := hZ.go bel
    refine hK.out _ _ ?_ (fun hHeld => ?_)
    · exact hHeld.go bel
    clear hK K
    (try simp only [Act.put, List.setIfInBounds_toArray, List.set_cons_zero, List.set_cons_succ])
    refine wpAnyH_take (i := 4) (oi := { dst := (some 36), op := (Op.build 57 #[(0, (Operand.tmp 32)), (1, (Operand.tmp 35))]), type := 57, pos := "addr.go:281", after := #[{ on := 0, ground := Ground.data }, { on := 3, ground := Ground.data }], guard := none }) (v := .agg (pCs p.a p.n ++ pCs (anyP (pfam p)).a (anyP (pfam p)).n).toArray) rfl (by kernel_rfl) (by kernel_rfl) (by kernel_rfl) (fun _ _ _ h => h) (Or.inl ⟨by rfl, fun W hW => ?_⟩) (by assumption) ?_
    · exact exec_build2 (x := .tmp 32) (y := .tmp 35) rfl rfl rfl (built57 Hp.out.1 hq.out.1)
    (try simp only [Act.put, List.setIfInBounds_toArray, List.set_cons_zero, List.set_cons_succ])
    refine wpAnyH_ready (rs := [6]) (by kernel_rfl) (by simp) ?_
    refine AllReadyH.cons (o := { dst := none, op := (Op.store 57 (Operand.tmp 7) (Operand.tmp 36)), type := 0, pos := "addr.go:281", after := #[{ on := 5, ground := Ground.data }, { on := 4, ground := Ground.data }, { on := 3, ground := Ground.chain }, { on := 0, ground := Ground.phase }, { on := 1, ground := Ground.phase }, { on := 2, ground := Ground.phase }, { on := 3, ground := Ground.phase }, { on := 4, ground := Ground.phase }, { on := 5, ground := Ground.phase }], guard := none }) rfl (fun K hK => ?_) AllReadyH.nil
    have hF := hZ.set1 (pCs p.a p.n ++ pCs (anyP (pfam p)).a (anyP (pfam p)).n).toArray lZ nZ
    refine wanted_go (by rfl) ?_
    refine wp_store_row 57 (.tmp 7) (.tmp 36) rfl _ _ rfl rfl 57 _ hZ.2.1.1 (info57 (p := ⟨p, anyP (pfam p)⟩) ⟨Hp.out, hq.out⟩) ((pp_size zeroPr_fit).trans (pp_size (p := ⟨p, anyP (pfam p)⟩) ⟨Hp.out, hq.out⟩).symm) (pp_one ⟨p, anyP (pfam p)⟩) ?_
    refine hK.out _ _ ?_ (fun hHeld => ?_)
    · exact ⟨hF.1, hF.2.1.2, hF.2.2⟩
    clear hK K
    (try simp only [Act.put, List.setIfInBounds_toArray, List.set_cons_zero, List.set_cons_succ])
    refine wpAnyH_done (by kernel_rfl) ?_ _
    clear hHeld
    go_wp2_with (first | (refine wpList_load_mid rfl 57 (.tmp 7) rfl _ 0 rfl _ _ (row_load hF.2.1.1) Tryz.underlying57 rfl (info57 (p := ⟨p, anyP (pfam p)⟩) ⟨Hp.out, hq.out⟩) ?_) | (go_at_call 60; refine hchk.mono ?_; clear hchk; rintro e w6 ⟨rfl, bel6⟩; have hG := hF.go bel6) | (refine wpList_load_mid rfl 57 (.tmp 7) rfl _ 0 rfl _ _ (row_load hG.2.1.1) Tryz.underlying57 rfl (info57 (p := ⟨p, anyP (pfam p)⟩) ⟨Hp.out, hq.out⟩) ?_) | (refine wpList_store_row rfl 57 (.tmp 2) (.tmp 60) rfl w.heap.size _ rfl rfl 57 _ hG.2.1.2.2.1 (info57 (p := ⟨p, anyP (pfam p)⟩) ⟨Hp.out, hq.out⟩) ((pp_size zeroPr_fit).trans (pp_size (p := ⟨p, anyP (pfam p)⟩) ⟨Hp.out, hq.out⟩).symm) (pp_one ⟨p, anyP (pfam p)⟩) ?_))
    refine bodyPost_ret (v := .tuple #[vPP ⟨p, anyP (pfam p)⟩, .int .i64 0]) ?_ rfl ⟨rfl, below_row hG.1 (Nat.le_refl _) _⟩
    exact results_cell_tmp rfl _ _ rfl (BoxPP.run (p := ⟨p, anyP (pfam p)⟩) (setRow_heap _ _ _ _ _ _ hG.2.1.2.2.1) ⟨Hp.out, hq.out⟩).2.2 rfl
end Go.Proofs.YtnljjlaececnkaaGreatDoor
/-
  Best. Condition: addresses are sixteen bytes, lengths a machine's numbers.
-/
namespace Go.Proofs.YtnljjlaececnkaaGreatDoor
open Go.RowKit
set_option linter.unusedVariables false
set_option linter.unusedSimpArgs false
def ppCs (p : Pr) : List Value := pCs p.d.a p.d.n ++ pCs p.s.a p.s.n
def prs (l : List Pr) : List Value := (l.map ppCs).flatten
theorem ppCs_len {p : Pr} (h : p.fit) : (ppCs p).length = 34 := by simp [ppCs, pCs_len h.1.1, pCs_len h.2.1]
theorem prs_at : ∀ {l : List Pr}, (∀ p ∈ l, p.fit) → ∀ {i : Nat} {p : Pr}, l[i]? = some p → ∀ {j : Nat} {u : Value}, (ppCs p)[j]? = some u → (prs l)[i * 34 + j]? = some u
  | [], _, i, p, h, _, _, _ => by simp at h
  | q :: l, hf, 0, p, h, j, u, hj => by
    simp at h; subst h
    have hl := (List.getElem?_eq_some_iff.1 hj).1
    simp only [prs, List.map_cons, List.flatten_cons, Nat.zero_mul, Nat.zero_add]
    rw [List.getElem?_append_left hl]; exact hj
  | q :: l, hf, i + 1, p, h, j, u, hj => by
    have hq := ppCs_len (hf q (by simp))
    have := prs_at (l := l) (fun x hx => hf x (by simp [hx])) (i := i) (p := p) (by simpa using h) hj
    simp only [prs, List.map_cons, List.flatten_cons] at this ⊢
    rw [List.getElem?_append_right (by omega), hq, show (i + 1) * 34 + j - 34 = i * 34 + j by omega]; exact this
theorem prs_len {l : List Pr} (hf : ∀ p ∈ l, p.fit) : (prs l).length = l.length * 34 := by
  induction l with
  | nil => rfl
  | cons p l ih =>
    have h1 := ppCs_len (hf p (by simp))
    have h2 := ih (fun x hx => hf x (by simp [hx]))
    unfold prs at h2 ⊢
    rw [List.map_cons, List.flatten_cons, List.length_append, h1, h2, List.length_cons]; omega
theorem ppCs_d {p : Pr} (h : p.fit) : (ppCs p)[16]? = some (.int .i64 p.d.n) := by
  unfold ppCs; rw [List.getElem?_append_left (by rw [pCs_len h.1.1]; decide)]; exact pCs_get h.1.1
theorem ppCs_s {p : Pr} (h : p.fit) : (ppCs p)[33]? = some (.int .i64 p.s.n) := by
  unfold ppCs; rw [List.getElem?_append_right (by rw [pCs_len h.1.1]; decide), pCs_len h.1.1]; exact pCs_get h.2.1
theorem ppCs_size {p : Pr} (h : p.fit) : (ppCs p).toArray.size = 34 := by simp [ppCs_len h]
/-- A row of pairs. -/
abbrev Prs (w : World) (v : Value) (l : List Pr) : Prop := Row w (fun b => w.heap.size ≤ b) 34 v l.length (prs l)
set_option maxRecDepth 100000 in
set_option maxHeartbeats 1600000 in
theorem best_any {w : World} {src dst : List Int} (hs : isA src) (hd : isA dst) {l : List Pr} (hf : ∀ p ∈ l, p.fit) {v : Value} (hr : Prs w v l) : Calls Tryz.prog 36 #[vA src, vA dst, v] w fun e w' => (∃ (k : Nat) (ok : Bool), e = .returned (.tuple #[.int .i64 k, .bool ok]) ∧ IsBest l src dst l.length k ok) ∧ Below w.heap.size w w' := by
  obtain ⟨h0, A, c, rfl, q1, q2, q3, q5⟩ := id hr
  replace hr := Lib.hid hr
  clear q5 h0
  have Hs := Lib.hid hs
  have Hd := Lib.hid hd
  have Hf := Lib.hid hf
  clear hs hd hf
  have B0 := Bx.start2 w (oA src) (oA dst)
  unfold vA
  go_enter Tryz.func36, Tryz.ntmps36
  go_wp2
  go_loopw [8, 9, 14] (fun x8 x9 x14 wr => ∃ (i k : Nat) (ok : Bool), x8 = .int .i64 k ∧ x9 = .bool ok ∧ x14 = .int .i64 i ∧ i ≤ l.length ∧ IsBest l src dst i k ok ∧ Bx w w.heap.size [(w.heap.size, oA src), (w.heap.size + 1, oA dst)] wr) (fun x8 x9 x14 wr => l.length - (intOf x14).toNat)
  case atStart => exact ⟨0, 0, false, rfl, rfl, rfl, by omega, IsBest.start l src dst, B0⟩
  case round =>
    obtain ⟨i, k, ok, rfl, rfl, rfl, hi, hb, bx⟩ := hrel
    replace hb := Lib.hid hb
    by_cases hlt : i < l.length
    · obtain ⟨p, hget⟩ := get_some hlt
      have hp := Lib.hid (Hf.out p (List.mem_of_getElem? hget))
      obtain ⟨b, o, rfl, -, -, -⟩ := hr.out.at_ (by omega)
      have hrr := hr.out.later bx.1
      have hra : wr.rangeAt b (o + i * 34) (ppCs p) := fun j u hj => by rw [Nat.add_assoc]; exact hrr.cells (prs_at Hf.out hget hj)
      replace hget := Lib.hid hget
      obtain ⟨m, hm⟩ : ∃ m, mat p src dst = m := ⟨_, rfl⟩
      have hmat := fun {W : World} => mat_any (w := W) hp.out Hs.out Hd.out
      rw [hm] at hmat
      have bx2 := bx.alloc (oPP p)
      replace hm := Lib.hid hm
      have hlt2 : decide ((i : Int) < l.length) = true := decide_eq_true (by omega)
      have hi2 : (i : Int) + 1 ≤ 9223372036854775807 := by have := q2; unfold maxLen at this; omega
      cases m
      · go_wp2_with (first
          | (refine wpList_load_mid rfl 57 (.tmp 17) rfl b (o + i * 34) rfl (ppCs p) _ hra Tryz.underlying57 rfl (by rw [ppCs_len hp.out]; exact size57) ?_)
          | (refine wpList_store_new rfl 57 (.tmp 11) (.tmp 18) rfl rfl rfl (info57 hp.out) (by rw [ppCs_size hp.out] <;> rfl) (pp_one p) ?_)
          | (refine wpList_load_mid rfl 57 (.tmp 11) rfl wr.heap.size 0 rfl _ _ (row_load bx2.2.1.1) Tryz.underlying57 rfl (info57 hp.out) ?_)
          | (refine wpList_load_mid rfl 42 (.tmp 3) rfl w.heap.size 0 rfl _ _ (row_load bx2.2.1.2.1) Tryz.underlying42 rfl (info42 Hs.out) ?_)
          | (refine wpList_load_mid rfl 42 (.tmp 4) rfl (w.heap.size + 1) 0 rfl _ _ (row_load bx2.2.1.2.2.1) Tryz.underlying42 rfl (info42 Hd.out) ?_)
          | (go_at_call 37; refine hmat.mono ?_; clear hmat; rintro e w5 ⟨rfl, bel5⟩; have bx5 := bx2.go bel5))
        refine ⟨⟨i + 1, k, ok, rfl, rfl, by congr 1, by omega, hb.out.skip hget.out hm.out, bx5.1, ⟨bx5.2.1.2.1, bx5.2.1.2.2.1, trivial⟩, bx5.2.2⟩, by simp [intOf]; omega⟩
      · cases ok
        · go_wp2_with (first
            | (refine wpList_load_mid rfl 57 (.tmp 17) rfl b (o + i * 34) rfl (ppCs p) _ hra Tryz.underlying57 rfl (by rw [ppCs_len hp.out]; exact size57) ?_)
            | (refine wpList_store_new rfl 57 (.tmp 11) (.tmp 18) rfl rfl rfl (info57 hp.out) (by rw [ppCs_size hp.out] <;> rfl) (pp_one p) ?_)
            | (refine wpList_load_mid rfl 57 (.tmp 11) rfl wr.heap.size 0 rfl _ _ (row_load bx2.2.1.1) Tryz.underlying57 rfl (info57 hp.out) ?_)
            | (refine wpList_load_mid rfl 42 (.tmp 3) rfl w.heap.size 0 rfl _ _ (row_load bx2.2.1.2.1) Tryz.underlying42 rfl (info42 Hs.out) ?_)
            | (refine wpList_load_mid rfl 42 (.tmp 4) rfl (w.heap.size + 1) 0 rfl _ _ (row_load bx2.2.1.2.2.1) Tryz.underlying42 rfl (info42 Hd.out) ?_)
            | (go_at_call 37; refine hmat.mono ?_; clear hmat; rintro e w5 ⟨rfl, bel5⟩; have bx5 := bx2.go bel5))
          go_wp2_with fail
          refine wp_region_held_drew (S := (Bx w w.heap.size [(wr.heap.size, oPP p), (w.heap.size, oA src), (w.heap.size + 1, oA dst)])) (by kernel_rfl) (Bx.drew bx5) (fun hHeld => ?_)
          refine wpAnyH_take (i := 0) (oi := { dst := (some 24), op := (Op.move (Operand.tmp 9)), type := 4, pos := "addr.go:306", after := #[], guard := none }) (v := ?_) rfl (by kernel_rfl) (by kernel_rfl) (by kernel_rfl) (fun _ _ _ h => h) (Or.inl ⟨by rfl, ?_⟩) (by assumption) ?_
          rotate_left
          · intro w hSw
            (try dsimp only at hSw)
            go_simp
            with_reducible rfl
          (try simp only [Act.put, List.setIfInBounds_toArray, List.set_cons_zero, List.set_cons_succ])
          refine wpAnyH_take (i := 1) (oi := { dst := (some 25), op := (Op.unOp UnOp.not 4 (Operand.tmp 24)), type := 4, pos := "addr.go:306", after := #[{ on := 0, ground := Ground.data }], guard := none }) (v := ?_) rfl (by kernel_rfl) (by kernel_rfl) (by kernel_rfl) (fun _ _ _ h => h) (Or.inl ⟨by rfl, ?_⟩) (by assumption) ?_
          rotate_left
          · intro w hSw
            (try dsimp only at hSw)
            go_simp
            with_reducible rfl
          (try simp only [Act.put, List.setIfInBounds_toArray, List.set_cons_zero, List.set_cons_succ])
          refine wpAnyH_take (i := 2) (oi := { dst := (some 26), op := (Op.move (Operand.tmp 25)), type := 4, pos := "addr.go:306", after := #[{ on := 1, ground := Ground.data }], guard := none }) (v := ?_) rfl (by kernel_rfl) (by kernel_rfl) (by kernel_rfl) (fun _ _ _ h => h) (Or.inl ⟨by rfl, ?_⟩) (by assumption) ?_
          rotate_left
          · intro w hSw
            (try dsimp only at hSw)
            go_simp
            with_reducible rfl
          (try simp only [Act.put, List.setIfInBounds_toArray, List.set_cons_zero, List.set_cons_succ])
          refine wpAnyH_take (i := 3) (oi := { dst := (some 27), op := (Op.fieldAddr 57 (Operand.tmp 11) 0), type := 0, pos := "addr.go:306", after := #[{ on := 2, ground := Ground.guard }], guard := (some (2, false)) }) (v := undef) rfl (by kernel_rfl) (by kernel_rfl) (by kernel_rfl) (fun _ _ _ h => h) (Or.inr ⟨by rfl, rfl⟩) (by assumption) ?_
          (try simp only [Act.put, List.setIfInBounds_toArray, List.set_cons_zero, List.set_cons_succ])
          refine wpAnyH_take (i := 4) (oi := { dst := (some 28), op := (Op.fieldAddr 55 (Operand.tmp 27) 1), type := 0, pos := "addr.go:306", after := #[{ on := 3, ground := Ground.data }, { on := 2, ground := Ground.guard }], guard := (some (2, false)) }) (v := undef) rfl (by kernel_rfl) (by kernel_rfl) (by kernel_rfl) (fun _ _ _ h => h) (Or.inr ⟨by rfl, rfl⟩) (by assumption) ?_
          (try simp only [Act.put, List.setIfInBounds_toArray, List.set_cons_zero, List.set_cons_succ])
          refine wpAnyH_take (i := 5) (oi := { dst := (some 29), op := (Op.load 3 (Operand.tmp 28)), type := 3, pos := "addr.go:306", after := #[{ on := 4, ground := Ground.data }, { on := 2, ground := Ground.guard }], guard := (some (2, false)) }) (v := undef) rfl (by kernel_rfl) (by kernel_rfl) (by kernel_rfl) (fun _ _ _ h => h) (Or.inr ⟨by rfl, rfl⟩) (by assumption) ?_
          (try simp only [Act.put, List.setIfInBounds_toArray, List.set_cons_zero, List.set_cons_succ])
          refine wpAnyH_take (i := 6) (oi := { dst := (some 30), op := (Op.move (Operand.tmp 2)), type := 50, pos := "addr.go:306", after := #[{ on := 2, ground := Ground.guard }], guard := (some (2, false)) }) (v := undef) rfl (by kernel_rfl) (by kernel_rfl) (by kernel_rfl) (fun _ _ _ h => h) (Or.inr ⟨by rfl, rfl⟩) (by assumption) ?_
          (try simp only [Act.put, List.setIfInBounds_toArray, List.set_cons_zero, List.set_cons_succ])
          refine wpAnyH_take (i := 7) (oi := { dst := (some 31), op := (Op.move (Operand.tmp 8)), type := 3, pos := "addr.go:306", after := #[{ on := 2, ground := Ground.guard }], guard := (some (2, false)) }) (v := undef) rfl (by kernel_rfl) (by kernel_rfl) (by kernel_rfl) (fun _ _ _ h => h) (Or.inr ⟨by rfl, rfl⟩) (by assumption) ?_
          (try simp only [Act.put, List.setIfInBounds_toArray, List.set_cons_zero, List.set_cons_succ])
          refine wpAnyH_take (i := 8) (oi := { dst := (some 32), op := (Op.indexAddr 50 (Operand.tmp 30) (Operand.tmp 31)), type := 0, pos := "addr.go:306", after := #[{ on := 6, ground := Ground.data }, { on := 7, ground := Ground.data }, { on := 2, ground := Ground.guard }], guard := (some (2, false)) }) (v := undef) rfl (by kernel_rfl) (by kernel_rfl) (by kernel_rfl) (fun _ _ _ h => h) (Or.inr ⟨by rfl, rfl⟩) (by assumption) ?_
          (try simp only [Act.put, List.setIfInBounds_toArray, List.set_cons_zero, List.set_cons_succ])
          refine wpAnyH_take (i := 9) (oi := { dst := (some 33), op := (Op.fieldAddr 57 (Operand.tmp 32) 0), type := 0, pos := "addr.go:306", after := #[{ on := 8, ground := Ground.data }, { on := 2, ground := Ground.guard }], guard := (some (2, false)) }) (v := undef) rfl (by kernel_rfl) (by kernel_rfl) (by kernel_rfl) (fun _ _ _ h => h) (Or.inr ⟨by rfl, rfl⟩) (by assumption) ?_
          (try simp only [Act.put, List.setIfInBounds_toArray, List.set_cons_zero, List.set_cons_succ])
          refine wpAnyH_take (i := 10) (oi := { dst := (some 34), op := (Op.fieldAddr 55 (Operand.tmp 33) 1), type := 0, pos := "addr.go:306", after := #[{ on := 9, ground := Ground.data }, { on := 2, ground := Ground.guard }], guard := (some (2, false)) }) (v := undef) rfl (by kernel_rfl) (by kernel_rfl) (by kernel_rfl) (fun _ _ _ h => h) (Or.inr ⟨by rfl, rfl⟩) (by assumption) ?_
          (try simp only [Act.put, List.setIfInBounds_toArray, List.set_cons_zero, List.set_cons_succ])
          refine wpAnyH_take (i := 11) (oi := { dst := (some 35), op := (Op.load 3 (Operand.tmp 34)), type := 3, pos := "addr.go:306", after := #[{ on := 10, ground := Ground.data }, { on := 2, ground := Ground.guard }], guard := (some (2, false)) }) (v := undef) rfl (by kernel_rfl) (by kernel_rfl) (by kernel_rfl) (fun _ _ _ h => h) (Or.inr ⟨by rfl, rfl⟩) (by assumption) ?_
          (try simp only [Act.put, List.setIfInBounds_toArray, List.set_cons_zero, List.set_cons_succ])
          refine wpAnyH_take (i := 12) (oi := { dst := (some 36), op := (Op.call { callee := (Callee.value (Operand.func 110)), args := #[(Operand.tmp 29), (Operand.tmp 35)], argTypes := #[3, 3] }), type := 3, pos := "addr.go:306", after := #[{ on := 5, ground := Ground.data }, { on := 11, ground := Ground.data }, { on := 2, ground := Ground.chain }, { on := 2, ground := Ground.guard }], guard := (some (2, false)) }) (v := undef) rfl (by kernel_rfl) (by kernel_rfl) (by kernel_rfl) (fun _ _ _ h => h) (Or.inr ⟨by rfl, rfl⟩) (by assumption) ?_
          (try simp only [Act.put, List.setIfInBounds_toArray, List.set_cons_zero, List.set_cons_succ])
          refine wpAnyH_take (i := 13) (oi := { dst := (some 37), op := (Op.fieldAddr 57 (Operand.tmp 11) 1), type := 0, pos := "addr.go:306", after := #[{ on := 2, ground := Ground.guard }], guard := (some (2, false)) }) (v := undef) rfl (by kernel_rfl) (by kernel_rfl) (by kernel_rfl) (fun _ _ _ h => h) (Or.inr ⟨by rfl, rfl⟩) (by assumption) ?_
          (try simp only [Act.put, List.setIfInBounds_toArray, List.set_cons_zero, List.set_cons_succ])
          refine wpAnyH_take (i := 14) (oi := { dst := (some 38), op := (Op.fieldAddr 55 (Operand.tmp 37) 1), type := 0, pos := "addr.go:306", after := #[{ on := 13, ground := Ground.data }, { on := 2, ground := Ground.guard }], guard := (some (2, false)) }) (v := undef) rfl (by kernel_rfl) (by kernel_rfl) (by kernel_rfl) (fun _ _ _ h => h) (Or.inr ⟨by rfl, rfl⟩) (by assumption) ?_
          (try simp only [Act.put, List.setIfInBounds_toArray, List.set_cons_zero, List.set_cons_succ])
          refine wpAnyH_take (i := 15) (oi := { dst := (some 39), op := (Op.load 3 (Operand.tmp 38)), type := 3, pos := "addr.go:306", after := #[{ on := 14, ground := Ground.data }, { on := 2, ground := Ground.guard }], guard := (some (2, false)) }) (v := undef) rfl (by kernel_rfl) (by kernel_rfl) (by kernel_rfl) (fun _ _ _ h => h) (Or.inr ⟨by rfl, rfl⟩) (by assumption) ?_
          (try simp only [Act.put, List.setIfInBounds_toArray, List.set_cons_zero, List.set_cons_succ])
          refine wpAnyH_take (i := 16) (oi := { dst := (some 40), op := (Op.move (Operand.tmp 2)), type := 50, pos := "addr.go:306", after := #[{ on := 2, ground := Ground.guard }], guard := (some (2, false)) }) (v := undef) rfl (by kernel_rfl) (by kernel_rfl) (by kernel_rfl) (fun _ _ _ h => h) (Or.inr ⟨by rfl, rfl⟩) (by assumption) ?_
          (try simp only [Act.put, List.setIfInBounds_toArray, List.set_cons_zero, List.set_cons_succ])
          refine wpAnyH_take (i := 17) (oi := { dst := (some 41), op := (Op.move (Operand.tmp 8)), type := 3, pos := "addr.go:306", after := #[{ on := 2, ground := Ground.guard }], guard := (some (2, false)) }) (v := undef) rfl (by kernel_rfl) (by kernel_rfl) (by kernel_rfl) (fun _ _ _ h => h) (Or.inr ⟨by rfl, rfl⟩) (by assumption) ?_
          (try simp only [Act.put, List.setIfInBounds_toArray, List.set_cons_zero, List.set_cons_succ])
          refine wpAnyH_take (i := 18) (oi := { dst := (some 42), op := (Op.indexAddr 50 (Operand.tmp 40) (Operand.tmp 41)), type := 0, pos := "addr.go:306", after := #[{ on := 16, ground := Ground.data }, { on := 17, ground := Ground.data }, { on := 2, ground := Ground.guard }], guard := (some (2, false)) }) (v := undef) rfl (by kernel_rfl) (by kernel_rfl) (by kernel_rfl) (fun _ _ _ h => h) (Or.inr ⟨by rfl, rfl⟩) (by assumption) ?_
          (try simp only [Act.put, List.setIfInBounds_toArray, List.set_cons_zero, List.set_cons_succ])
          refine wpAnyH_take (i := 19) (oi := { dst := (some 43), op := (Op.fieldAddr 57 (Operand.tmp 42) 1), type := 0, pos := "addr.go:306", after := #[{ on := 18, ground := Ground.data }, { on := 2, ground := Ground.guard }], guard := (some (2, false)) }) (v := undef) rfl (by kernel_rfl) (by kernel_rfl) (by kernel_rfl) (fun _ _ _ h => h) (Or.inr ⟨by rfl, rfl⟩) (by assumption) ?_
          (try simp only [Act.put, List.setIfInBounds_toArray, List.set_cons_zero, List.set_cons_succ])
          refine wpAnyH_take (i := 20) (oi := { dst := (some 44), op := (Op.fieldAddr 55 (Operand.tmp 43) 1), type := 0, pos := "addr.go:306", after := #[{ on := 19, ground := Ground.data }, { on := 2, ground := Ground.guard }], guard := (some (2, false)) }) (v := undef) rfl (by kernel_rfl) (by kernel_rfl) (by kernel_rfl) (fun _ _ _ h => h) (Or.inr ⟨by rfl, rfl⟩) (by assumption) ?_
          (try simp only [Act.put, List.setIfInBounds_toArray, List.set_cons_zero, List.set_cons_succ])
          refine wpAnyH_take (i := 21) (oi := { dst := (some 45), op := (Op.load 3 (Operand.tmp 44)), type := 3, pos := "addr.go:306", after := #[{ on := 20, ground := Ground.data }, { on := 2, ground := Ground.guard }], guard := (some (2, false)) }) (v := undef) rfl (by kernel_rfl) (by kernel_rfl) (by kernel_rfl) (fun _ _ _ h => h) (Or.inr ⟨by rfl, rfl⟩) (by assumption) ?_
          (try simp only [Act.put, List.setIfInBounds_toArray, List.set_cons_zero, List.set_cons_succ])
          refine wpAnyH_take (i := 22) (oi := { dst := (some 46), op := (Op.call { callee := (Callee.value (Operand.func 110)), args := #[(Operand.tmp 39), (Operand.tmp 45)], argTypes := #[3, 3] }), type := 3, pos := "addr.go:306", after := #[{ on := 15, ground := Ground.data }, { on := 21, ground := Ground.data }, { on := 12, ground := Ground.chain }, { on := 2, ground := Ground.guard }], guard := (some (2, false)) }) (v := undef) rfl (by kernel_rfl) (by kernel_rfl) (by kernel_rfl) (fun _ _ _ h => h) (Or.inr ⟨by rfl, rfl⟩) (by assumption) ?_
          (try simp only [Act.put, List.setIfInBounds_toArray, List.set_cons_zero, List.set_cons_succ])
          refine wpAnyH_take (i := 23) (oi := { dst := (some 47), op := (Op.buildSlice 188 2 #[(0, (Operand.tmp 36)), (1, (Operand.tmp 46))]), type := 188, pos := "addr.go:306", after := #[{ on := 12, ground := Ground.data }, { on := 22, ground := Ground.data }, { on := 2, ground := Ground.guard }], guard := (some (2, false)) }) (v := undef) rfl (by kernel_rfl) (by kernel_rfl) (by kernel_rfl) (fun _ _ _ h => h) (Or.inr ⟨by rfl, rfl⟩) (by assumption) ?_
          (try simp only [Act.put, List.setIfInBounds_toArray, List.set_cons_zero, List.set_cons_succ])
          refine wpAnyH_take (i := 24) (oi := { dst := (some 48), op := (Op.call { callee := (Callee.value (Operand.func 109)), args := #[(Operand.tmp 47)], argTypes := #[188] }), type := 3, pos := "addr.go:306", after := #[{ on := 23, ground := Ground.data }, { on := 22, ground := Ground.chain }, { on := 2, ground := Ground.guard }], guard := (some (2, false)) }) (v := undef) rfl (by kernel_rfl) (by kernel_rfl) (by kernel_rfl) (fun _ _ _ h => h) (Or.inr ⟨by rfl, rfl⟩) (by assumption) ?_
          (try simp only [Act.put, List.setIfInBounds_toArray, List.set_cons_zero, List.set_cons_succ])
          refine wpAnyH_take (i := 25) (oi := { dst := (some 49), op := (Op.binOp BinOp.gtr 3 (Operand.tmp 48) (Operand.const (Value.int IntKind.i64 0)) 3), type := 4, pos := "addr.go:306", after := #[{ on := 24, ground := Ground.data }, { on := 2, ground := Ground.guard }], guard := (some (2, false)) }) (v := undef) rfl (by kernel_rfl) (by kernel_rfl) (by kernel_rfl) (fun _ _ _ h => h) (Or.inr ⟨by rfl, rfl⟩) (by assumption) ?_
          (try simp only [Act.put, List.setIfInBounds_toArray, List.set_cons_zero, List.set_cons_succ])
          refine wpAnyH_take (i := 26) (oi := { dst := (some 50), op := (Op.pick (Operand.tmp 26) (Operand.const (Value.bool true)) (Operand.tmp 49)), type := 4, pos := "addr.go:306", after := #[{ on := 2, ground := Ground.data }, { on := 25, ground := Ground.data }], guard := none }) (v := ?_) rfl (by kernel_rfl) (by kernel_rfl) (by kernel_rfl) (fun _ _ _ h => h) (Or.inl ⟨by rfl, ?_⟩) (by assumption) ?_
          rotate_left
          · intro w hSw
            (try dsimp only at hSw)
            go_simp
            with_reducible rfl
          (try simp only [Act.put, List.setIfInBounds_toArray, List.set_cons_zero, List.set_cons_succ])
          refine wpAnyH_done (by kernel_rfl) ?_ _
          go_wp2_with fail
          refine ⟨⟨i + 1, i, true, rfl, rfl, by congr 1, by omega, hb.out.first hget.out hm.out, hHeld.1, ⟨hHeld.2.1.2.1, hHeld.2.1.2.2.1, trivial⟩, hHeld.2.2⟩, by simp [intOf]; omega⟩
        · obtain ⟨hk, bp, hbp, -⟩ := hb.out.yes rfl
          have hbf := Lib.hid (Hf.out bp (List.mem_of_getElem? hbp))
          have hkl : (k : Int) < l.length := by omega
          obtain ⟨y1, hy1⟩ : ∃ y, Lib.compareInt p.d.n bp.d.n = y := ⟨_, rfl⟩
          obtain ⟨y2, hy2⟩ : ∃ y, Lib.compareInt p.s.n bp.s.n = y := ⟨_, rfl⟩
          have hcI1 : ∀ (W : World), Calls Tryz.prog 110 #[.int .i64 p.d.n, .int .i64 bp.d.n] W fun e w' => e = .returned (.int .i64 y1) ∧ w' = W := fun W => by rw [← hy1]; exact cmpI _ _
          have hcI2 : ∀ (W : World), Calls Tryz.prog 110 #[.int .i64 p.s.n, .int .i64 bp.s.n] W fun e w' => e = .returned (.int .i64 y2) ∧ w' = W := fun W => by rw [← hy2]; exact cmpI _ _
          obtain ⟨z, hz⟩ : ∃ z, or2 (Lib.compareInt p.d.n bp.d.n) (Lib.compareInt p.s.n bp.s.n) = z := ⟨_, rfl⟩
          replace hbp := Lib.hid hbp
          have hor : ∀ (W : World) (g : Nat), W.heap[g]? = some (.cells #[.int .i64 y1, .int .i64 y2] 3 (0, 0)) → Calls Tryz.prog 109 #[.slice (some ⟨g, 0, none⟩) 2 2] W fun e w' => e = .returned (.int .i64 z) ∧ w' = W   := fun W g hg => by rw [← hz, hy1, hy2]; exact or_any hg
          obtain ⟨tz, htz⟩ : ∃ t, decide (0 < z) = t := ⟨_, rfl⟩
          replace htz := Lib.hid htz
          replace hor := Lib.hid hor
          replace hcI1 := Lib.hid hcI1
          replace hcI2 := Lib.hid hcI2
          replace hy1 := Lib.hid hy1
          replace hy2 := Lib.hid hy2
          replace hz := Lib.hid hz
          go_wp2_with (first
            | (refine wpList_load_mid rfl 57 (.tmp 17) rfl b (o + i * 34) rfl (ppCs p) _ hra Tryz.underlying57 rfl (by rw [ppCs_len hp.out]; exact size57) ?_)
            | (refine wpList_store_new rfl 57 (.tmp 11) (.tmp 18) rfl rfl rfl (info57 hp.out) (by rw [ppCs_size hp.out] <;> rfl) (pp_one p) ?_)
            | (refine wpList_load_mid rfl 57 (.tmp 11) rfl wr.heap.size 0 rfl _ _ (row_load bx2.2.1.1) Tryz.underlying57 rfl (info57 hp.out) ?_)
            | (refine wpList_load_mid rfl 42 (.tmp 3) rfl w.heap.size 0 rfl _ _ (row_load bx2.2.1.2.1) Tryz.underlying42 rfl (info42 Hs.out) ?_)
            | (refine wpList_load_mid rfl 42 (.tmp 4) rfl (w.heap.size + 1) 0 rfl _ _ (row_load bx2.2.1.2.2.1) Tryz.underlying42 rfl (info42 Hd.out) ?_)
            | (go_at_call 37; refine hmat.mono ?_; clear hmat; rintro e w5 ⟨rfl, bel5⟩; have bx5 := bx2.go bel5))
          go_wp2_with fail
          refine wp_region_held_drew (S := (Bx w w.heap.size [(wr.heap.size, oPP p), (w.heap.size, oA src), (w.heap.size + 1, oA dst)])) (by kernel_rfl) (Bx.drew bx5) (fun hHeld => ?_)
          refine wpAnyH_take (i := 0) (oi := { dst := (some 24), op := (Op.move (Operand.tmp 9)), type := 4, pos := "addr.go:306", after := #[], guard := none }) (v := ?_) rfl (by kernel_rfl) (by kernel_rfl) (by kernel_rfl) (fun _ _ _ h => h) (Or.inl ⟨by rfl, ?_⟩) (by assumption) ?_
          rotate_left
          · intro w hSw
            (try dsimp only at hSw)
            go_simp
            with_reducible rfl
          (try simp only [Act.put, List.setIfInBounds_toArray, List.set_cons_zero, List.set_cons_succ])
          refine wpAnyH_take (i := 1) (oi := { dst := (some 25), op := (Op.unOp UnOp.not 4 (Operand.tmp 24)), type := 4, pos := "addr.go:306", after := #[{ on := 0, ground := Ground.data }], guard := none }) (v := ?_) rfl (by kernel_rfl) (by kernel_rfl) (by kernel_rfl) (fun _ _ _ h => h) (Or.inl ⟨by rfl, ?_⟩) (by assumption) ?_
          rotate_left
          · intro w hSw
            (try dsimp only at hSw)
            go_simp
            with_reducible rfl
          (try simp only [Act.put, List.setIfInBounds_toArray, List.set_cons_zero, List.set_cons_succ])
          refine wpAnyH_take (i := 2) (oi := { dst := (some 26), op := (Op.move (Operand.tmp 25)), type := 4, pos := "addr.go:306", after := #[{ on := 1, ground := Ground.data }], guard := none }) (v := ?_) rfl (by kernel_rfl) (by kernel_rfl) (by kernel_rfl) (fun _ _ _ h => h) (Or.inl ⟨by rfl, ?_⟩) (by assumption) ?_
          rotate_left
          · intro w hSw
            (try dsimp only at hSw)
            go_simp
            with_reducible rfl
          (try simp only [Act.put, List.setIfInBounds_toArray, List.set_cons_zero, List.set_cons_succ])
          refine wpAnyH_take (i := 3) (oi := { dst := (some 27), op := (Op.fieldAddr 57 (Operand.tmp 11) 0), type := 0, pos := "addr.go:306", after := #[{ on := 2, ground := Ground.guard }], guard := (some (2, false)) }) (v := ?_) rfl (by kernel_rfl) (by kernel_rfl) (by kernel_rfl) (fun _ _ _ h => h) (Or.inl ⟨by rfl, ?_⟩) (by assumption) ?_
          rotate_left
          · intro w hSw
            (try dsimp only at hSw)
            go_simp
            with_reducible rfl
          (try simp only [Act.put, List.setIfInBounds_toArray, List.set_cons_zero, List.set_cons_succ])
          refine wpAnyH_take (i := 4) (oi := { dst := (some 28), op := (Op.fieldAddr 55 (Operand.tmp 27) 1), type := 0, pos := "addr.go:306", after := #[{ on := 3, ground := Ground.data }, { on := 2, ground := Ground.guard }], guard := (some (2, false)) }) (v := ?_) rfl (by kernel_rfl) (by kernel_rfl) (by kernel_rfl) (fun _ _ _ h => h) (Or.inl ⟨by rfl, ?_⟩) (by assumption) ?_
          rotate_left
          · intro w hSw
            (try dsimp only at hSw)
            go_simp
            with_reducible rfl
          (try simp only [Act.put, List.setIfInBounds_toArray, List.set_cons_zero, List.set_cons_succ])
          refine wpAnyH_take (i := 5) (oi := { dst := (some 29), op := (Op.load 3 (Operand.tmp 28)), type := 3, pos := "addr.go:306", after := #[{ on := 4, ground := Ground.data }, { on := 2, ground := Ground.guard }], guard := (some (2, false)) }) (v := .int .i64 p.d.n) rfl (by kernel_rfl) (by kernel_rfl) (by kernel_rfl) (fun _ _ _ h => h) (Or.inl ⟨by rfl, fun W hW => ?_⟩) (by assumption) ?_
          · have q : W.cell? ⟨wr.heap.size, 16, none⟩ = some (.int .i64 p.d.n) := (row_cell hW.2.1.1).trans (by rw [List.getElem?_toArray]; exact ppCs_d hp.out)
            go_simp
          (try simp only [Act.put, List.setIfInBounds_toArray, List.set_cons_zero, List.set_cons_succ])
          refine wpAnyH_take (i := 6) (oi := { dst := (some 30), op := (Op.move (Operand.tmp 2)), type := 50, pos := "addr.go:306", after := #[{ on := 2, ground := Ground.guard }], guard := (some (2, false)) }) (v := ?_) rfl (by kernel_rfl) (by kernel_rfl) (by kernel_rfl) (fun _ _ _ h => h) (Or.inl ⟨by rfl, ?_⟩) (by assumption) ?_
          rotate_left
          · intro w hSw
            (try dsimp only at hSw)
            go_simp
            with_reducible rfl
          (try simp only [Act.put, List.setIfInBounds_toArray, List.set_cons_zero, List.set_cons_succ])
          refine wpAnyH_take (i := 7) (oi := { dst := (some 31), op := (Op.move (Operand.tmp 8)), type := 3, pos := "addr.go:306", after := #[{ on := 2, ground := Ground.guard }], guard := (some (2, false)) }) (v := ?_) rfl (by kernel_rfl) (by kernel_rfl) (by kernel_rfl) (fun _ _ _ h => h) (Or.inl ⟨by rfl, ?_⟩) (by assumption) ?_
          rotate_left
          · intro w hSw
            (try dsimp only at hSw)
            go_simp
            with_reducible rfl
          (try simp only [Act.put, List.setIfInBounds_toArray, List.set_cons_zero, List.set_cons_succ])
          refine wpAnyH_take (i := 8) (oi := { dst := (some 32), op := (Op.indexAddr 50 (Operand.tmp 30) (Operand.tmp 31)), type := 0, pos := "addr.go:306", after := #[{ on := 6, ground := Ground.data }, { on := 7, ground := Ground.data }, { on := 2, ground := Ground.guard }], guard := (some (2, false)) }) (v := ?_) rfl (by kernel_rfl) (by kernel_rfl) (by kernel_rfl) (fun _ _ _ h => h) (Or.inl ⟨by rfl, ?_⟩) (by assumption) ?_
          rotate_left
          · intro w hSw
            (try dsimp only at hSw)
            go_simp
            with_reducible rfl
          (try simp only [Act.put, List.setIfInBounds_toArray, List.set_cons_zero, List.set_cons_succ])
          refine wpAnyH_take (i := 9) (oi := { dst := (some 33), op := (Op.fieldAddr 57 (Operand.tmp 32) 0), type := 0, pos := "addr.go:306", after := #[{ on := 8, ground := Ground.data }, { on := 2, ground := Ground.guard }], guard := (some (2, false)) }) (v := ?_) rfl (by kernel_rfl) (by kernel_rfl) (by kernel_rfl) (fun _ _ _ h => h) (Or.inl ⟨by rfl, ?_⟩) (by assumption) ?_
          rotate_left
          · intro w hSw
            (try dsimp only at hSw)
            go_simp
            with_reducible rfl
          (try simp only [Act.put, List.setIfInBounds_toArray, List.set_cons_zero, List.set_cons_succ])
          refine wpAnyH_take (i := 10) (oi := { dst := (some 34), op := (Op.fieldAddr 55 (Operand.tmp 33) 1), type := 0, pos := "addr.go:306", after := #[{ on := 9, ground := Ground.data }, { on := 2, ground := Ground.guard }], guard := (some (2, false)) }) (v := ?_) rfl (by kernel_rfl) (by kernel_rfl) (by kernel_rfl) (fun _ _ _ h => h) (Or.inl ⟨by rfl, ?_⟩) (by assumption) ?_
          rotate_left
          · intro w hSw
            (try dsimp only at hSw)
            go_simp
            with_reducible rfl
          (try simp only [Act.put, List.setIfInBounds_toArray, List.set_cons_zero, List.set_cons_succ])
          refine wpAnyH_take (i := 11) (oi := { dst := (some 35), op := (Op.load 3 (Operand.tmp 34)), type := 3, pos := "addr.go:306", after := #[{ on := 10, ground := Ground.data }, { on := 2, ground := Ground.guard }], guard := (some (2, false)) }) (v := .int .i64 bp.d.n) rfl (by kernel_rfl) (by kernel_rfl) (by kernel_rfl) (fun _ _ _ h => h) (Or.inl ⟨by rfl, fun W hW => ?_⟩) (by assumption) ?_
          · have q : W.cell? ⟨b, o + k * 34 + 16, none⟩ = some (.int .i64 bp.d.n) := by rw [Nat.add_assoc]; exact (hr.out.later hW.1).cells (prs_at Hf.out hbp.out (ppCs_d hbf.out))
            go_simp
          (try simp only [Act.put, List.setIfInBounds_toArray, List.set_cons_zero, List.set_cons_succ])
          refine wpAnyH_take (i := 13) (oi := { dst := (some 37), op := (Op.fieldAddr 57 (Operand.tmp 11) 1), type := 0, pos := "addr.go:306", after := #[{ on := 2, ground := Ground.guard }], guard := (some (2, false)) }) (v := ?_) rfl (by kernel_rfl) (by kernel_rfl) (by kernel_rfl) (fun _ _ _ h => h) (Or.inl ⟨by rfl, ?_⟩) (by assumption) ?_
          rotate_left
          · intro w hSw
            (try dsimp only at hSw)
            go_simp
            with_reducible rfl
          (try simp only [Act.put, List.setIfInBounds_toArray, List.set_cons_zero, List.set_cons_succ])
          refine wpAnyH_take (i := 14) (oi := { dst := (some 38), op := (Op.fieldAddr 55 (Operand.tmp 37) 1), type := 0, pos := "addr.go:306", after := #[{ on := 13, ground := Ground.data }, { on := 2, ground := Ground.guard }], guard := (some (2, false)) }) (v := ?_) rfl (by kernel_rfl) (by kernel_rfl) (by kernel_rfl) (fun _ _ _ h => h) (Or.inl ⟨by rfl, ?_⟩) (by assumption) ?_
          rotate_left
          · intro w hSw
            (try dsimp only at hSw)
            go_simp
            with_reducible rfl
          (try simp only [Act.put, List.setIfInBounds_toArray, List.set_cons_zero, List.set_cons_succ])
          refine wpAnyH_take (i := 15) (oi := { dst := (some 39), op := (Op.load 3 (Operand.tmp 38)), type := 3, pos := "addr.go:306", after := #[{ on := 14, ground := Ground.data }, { on := 2, ground := Ground.guard }], guard := (some (2, false)) }) (v := .int .i64 p.s.n) rfl (by kernel_rfl) (by kernel_rfl) (by kernel_rfl) (fun _ _ _ h => h) (Or.inl ⟨by rfl, fun W hW => ?_⟩) (by assumption) ?_
          · have q : W.cell? ⟨wr.heap.size, 33, none⟩ = some (.int .i64 p.s.n) := (row_cell hW.2.1.1).trans (by rw [List.getElem?_toArray]; exact ppCs_s hp.out)
            go_simp
          (try simp only [Act.put, List.setIfInBounds_toArray, List.set_cons_zero, List.set_cons_succ])
          refine wpAnyH_take (i := 16) (oi := { dst := (some 40), op := (Op.move (Operand.tmp 2)), type := 50, pos := "addr.go:306", after := #[{ on := 2, ground := Ground.guard }], guard := (some (2, false)) }) (v := ?_) rfl (by kernel_rfl) (by kernel_rfl) (by kernel_rfl) (fun _ _ _ h => h) (Or.inl ⟨by rfl, ?_⟩) (by assumption) ?_
          rotate_left
          · intro w hSw
            (try dsimp only at hSw)
            go_simp
            with_reducible rfl
          (try simp only [Act.put, List.setIfInBounds_toArray, List.set_cons_zero, List.set_cons_succ])
          refine wpAnyH_take (i := 17) (oi := { dst := (some 41), op := (Op.move (Operand.tmp 8)), type := 3, pos := "addr.go:306", after := #[{ on := 2, ground := Ground.guard }], guard := (some (2, false)) }) (v := ?_) rfl (by kernel_rfl) (by kernel_rfl) (by kernel_rfl) (fun _ _ _ h => h) (Or.inl ⟨by rfl, ?_⟩) (by assumption) ?_
          rotate_left
          · intro w hSw
            (try dsimp only at hSw)
            go_simp
            with_reducible rfl
          (try simp only [Act.put, List.setIfInBounds_toArray, List.set_cons_zero, List.set_cons_succ])
          refine wpAnyH_take (i := 18) (oi := { dst := (some 42), op := (Op.indexAddr 50 (Operand.tmp 40) (Operand.tmp 41)), type := 0, pos := "addr.go:306", after := #[{ on := 16, ground := Ground.data }, { on := 17, ground := Ground.data }, { on := 2, ground := Ground.guard }], guard := (some (2, false)) }) (v := ?_) rfl (by kernel_rfl) (by kernel_rfl) (by kernel_rfl) (fun _ _ _ h => h) (Or.inl ⟨by rfl, ?_⟩) (by assumption) ?_
          rotate_left
          · intro w hSw
            (try dsimp only at hSw)
            go_simp
            with_reducible rfl
          (try simp only [Act.put, List.setIfInBounds_toArray, List.set_cons_zero, List.set_cons_succ])
          refine wpAnyH_take (i := 19) (oi := { dst := (some 43), op := (Op.fieldAddr 57 (Operand.tmp 42) 1), type := 0, pos := "addr.go:306", after := #[{ on := 18, ground := Ground.data }, { on := 2, ground := Ground.guard }], guard := (some (2, false)) }) (v := ?_) rfl (by kernel_rfl) (by kernel_rfl) (by kernel_rfl) (fun _ _ _ h => h) (Or.inl ⟨by rfl, ?_⟩) (by assumption) ?_
          rotate_left
          · intro w hSw
            (try dsimp only at hSw)
            go_simp
            with_reducible rfl
          (try simp only [Act.put, List.setIfInBounds_toArray, List.set_cons_zero, List.set_cons_succ])
          refine wpAnyH_take (i := 20) (oi := { dst := (some 44), op := (Op.fieldAddr 55 (Operand.tmp 43) 1), type := 0, pos := "addr.go:306", after := #[{ on := 19, ground := Ground.data }, { on := 2, ground := Ground.guard }], guard := (some (2, false)) }) (v := ?_) rfl (by kernel_rfl) (by kernel_rfl) (by kernel_rfl) (fun _ _ _ h => h) (Or.inl ⟨by rfl, ?_⟩) (by assumption) ?_
          rotate_left
          · intro w hSw
            (try dsimp only at hSw)
            go_simp
            with_reducible rfl
          (try simp only [Act.put, List.setIfInBounds_toArray, List.set_cons_zero, List.set_cons_succ])
          refine wpAnyH_take (i := 21) (oi := { dst := (some 45), op := (Op.load 3 (Operand.tmp 44)), type := 3, pos := "addr.go:306", after := #[{ on := 20, ground := Ground.data }, { on := 2, ground := Ground.guard }], guard := (some (2, false)) }) (v := .int .i64 bp.s.n) rfl (by kernel_rfl) (by kernel_rfl) (by kernel_rfl) (fun _ _ _ h => h) (Or.inl ⟨by rfl, fun W hW => ?_⟩) (by assumption) ?_
          · have q : W.cell? ⟨b, o + k * 34 + 17 + 16, none⟩ = some (.int .i64 bp.s.n) := by rw [Nat.add_assoc, Nat.add_assoc]; exact (hr.out.later hW.1).cells (prs_at Hf.out hbp.out (ppCs_s hbf.out))
            go_simp
          (try simp only [Act.put, List.setIfInBounds_toArray, List.set_cons_zero, List.set_cons_succ])
          refine wpAnyH_ready (rs := [12]) (by kernel_rfl) (by simp) ?_
          refine AllReadyH.cons (o := { dst := (some 36), op := (Op.call { callee := (Callee.value (Operand.func 110)), args := #[(Operand.tmp 29), (Operand.tmp 35)], argTypes := #[3, 3] }), type := 3, pos := "addr.go:306", after := #[{ on := 5, ground := Ground.data }, { on := 11, ground := Ground.data }, { on := 2, ground := Ground.chain }, { on := 2, ground := Ground.guard }], guard := (some (2, false)) }) rfl (fun K hK => ?_) AllReadyH.nil
          go_simp
          refine (hcI1.out _).mono ?_
          rintro e w6 ⟨rfl, rfl⟩
          refine hK.out _ _ ?_ (fun hHeld => ?_)
          · exact hHeld
          clear hK K
          (try simp only [Act.put, List.setIfInBounds_toArray, List.set_cons_zero, List.set_cons_succ])
          refine wpAnyH_ready (rs := [22]) (by kernel_rfl) (by simp) ?_
          refine AllReadyH.cons (o := { dst := (some 46), op := (Op.call { callee := (Callee.value (Operand.func 110)), args := #[(Operand.tmp 39), (Operand.tmp 45)], argTypes := #[3, 3] }), type := 3, pos := "addr.go:306", after := #[{ on := 15, ground := Ground.data }, { on := 21, ground := Ground.data }, { on := 12, ground := Ground.chain }, { on := 2, ground := Ground.guard }], guard := (some (2, false)) }) rfl (fun K hK => ?_) AllReadyH.nil
          go_simp
          refine (hcI2.out _).mono ?_
          rintro e w7 ⟨rfl, rfl⟩
          refine hK.out _ _ ?_ (fun hHeld => ?_)
          · exact hHeld
          clear hK K
          (try simp only [Act.put, List.setIfInBounds_toArray, List.set_cons_zero, List.set_cons_succ])
          refine wpAnyH_ready (rs := [23]) (by kernel_rfl) (by simp) ?_
          refine AllReadyH.cons (o := { dst := (some 47), op := (Op.buildSlice 188 2 #[(0, (Operand.tmp 36)), (1, (Operand.tmp 46))]), type := 188, pos := "addr.go:306", after := #[{ on := 12, ground := Ground.data }, { on := 22, ground := Ground.data }, { on := 2, ground := Ground.guard }], guard := (some (2, false)) }) rfl (fun K hK => ?_) AllReadyH.nil
          go_simp
          refine hK.out _ _ ?_ (fun hHeld => ?_)
          · exact hHeld.go ((Below.refl _ _).alloc (Nat.le_refl _) _)
          clear hK K
          (try simp only [Act.put, List.setIfInBounds_toArray, List.set_cons_zero, List.set_cons_succ])
          refine wpAnyH_ready (rs := [24]) (by kernel_rfl) (by simp) ?_
          refine AllReadyH.cons (o := { dst := (some 48), op := (Op.call { callee := (Callee.value (Operand.func 109)), args := #[(Operand.tmp 47)], argTypes := #[188] }), type := 3, pos := "addr.go:306", after := #[{ on := 23, ground := Ground.data }, { on := 22, ground := Ground.chain }, { on := 2, ground := Ground.guard }], guard := (some (2, false)) }) rfl (fun K hK => ?_) AllReadyH.nil
          go_simp
          refine (hor.out (w5.alloc (.cells #[.int .i64 y1, .int .i64 y2] 3)).drew w5.heap.size (box1 w5 _)).mono ?_
          rintro e w8 ⟨rfl, rfl⟩
          refine hK.out _ _ ?_ (fun hHeld => ?_)
          · exact hHeld
          clear hK K
          (try simp only [Act.put, List.setIfInBounds_toArray, List.set_cons_zero, List.set_cons_succ])
          refine wpAnyH_take (i := 25) (oi := { dst := (some 49), op := (Op.binOp BinOp.gtr 3 (Operand.tmp 48) (Operand.const (Value.int IntKind.i64 0)) 3), type := 4, pos := "addr.go:306", after := #[{ on := 24, ground := Ground.data }, { on := 2, ground := Ground.guard }], guard := (some (2, false)) }) (v := .bool tz) rfl (by kernel_rfl) (by kernel_rfl) (by kernel_rfl) (fun _ _ _ h => h) (Or.inl ⟨by rfl, fun W hW => ?_⟩) (by assumption) ?_
          · rw [← htz.out]
            go_simp
          (try simp only [Act.put, List.setIfInBounds_toArray, List.set_cons_zero, List.set_cons_succ])
          refine wpAnyH_take (i := 26) (oi := { dst := (some 50), op := (Op.pick (Operand.tmp 26) (Operand.const (Value.bool true)) (Operand.tmp 49)), type := 4, pos := "addr.go:306", after := #[{ on := 2, ground := Ground.data }, { on := 25, ground := Ground.data }], guard := none }) (v := ?_) rfl (by kernel_rfl) (by kernel_rfl) (by kernel_rfl) (fun _ _ _ h => h) (Or.inl ⟨by rfl, ?_⟩) (by assumption) ?_
          rotate_left
          · intro w hSw
            (try dsimp only at hSw)
            go_simp
            with_reducible rfl
          (try simp only [Act.put, List.setIfInBounds_toArray, List.set_cons_zero, List.set_cons_succ])
          refine wpAnyH_done (by kernel_rfl) ?_ _
          clear hor hcI1 hcI2 hkl hrr hra bx2 bx5 bel5 B0 q1 q2 q3 hk
          generalize (World.alloc w5 (.cells #[.int .i64 y1, .int .i64 y2] 3)).drew = W9 at hHeld ⊢
          cases tz
          · have hnz : Hid (¬ 0 < z) := Lib.hid (of_decide_eq_false htz.out)
            go_wp2_with fail
            refine ⟨⟨i + 1, k, true, rfl, rfl, by congr 1, by omega, hb.out.stay hget.out hbp.out (by rw [hz.out]; have := hnz.out; omega), hHeld.1, ⟨hHeld.2.1.2.1, hHeld.2.1.2.2.1, trivial⟩, hHeld.2.2⟩, by simp [intOf]; omega⟩
          · have hnz : Hid (0 < z) := Lib.hid (of_decide_eq_true htz.out)
            go_wp2_with fail
            refine ⟨⟨i + 1, i, true, rfl, rfl, by congr 1, by omega, hb.out.turn hget.out hbp.out hm.out (by rw [hz.out]; have := hnz.out; omega), hHeld.1, ⟨hHeld.2.1.2.1, hHeld.2.1.2.2.1, trivial⟩, hHeld.2.2⟩, by simp [intOf]; omega⟩
    · obtain rfl : i = l.length := by omega
      have hlt2 : decide ((l.length : Int) < l.length) = false := decide_eq_false (by omega)
      go_wp2_with fail
      go_ret2
      exact ⟨⟨k, ok, rfl, hb.out⟩, bx.1⟩
end Go.Proofs.YtnljjlaececnkaaGreatDoor
/-
  The prefix of an address's first bits; the plain number of an error. Condition: an address is sixteen bytes, a length a machine's number.
-/
namespace Go.Proofs.YtnljjlaececnkaaGreatDoor
open Go.RowKit
set_option linter.unusedVariables false
set_option linter.unusedSimpArgs false
theorem num_any {w : World} (n : Int) : Calls Tryz.prog 31 #[.int .i64 n] w fun e w' => e = .returned (.int .i64 n) ∧ w' = w := by
  go_enter Tryz.func31, Tryz.ntmps31
  go_wp2_with fail
  go_ret
  exact ⟨rfl, rfl⟩
theorem num_lit {w : World} (n : Int) : Calls Tryz.prog 31 #[.int .i64 n] w fun e w' => e = .returned (.int .i64 n) ∧ Below w.heap.size w w' := (num_any n).mono fun e w' h => ⟨h.1, by rw [h.2]; exact Below.refl _ _⟩
theorem wpList_build2 {P : Program} {ops : Array Oper} {rest : List Oper} {o : Oper} {a : Act} {w : World} {Q : Exit → Act → World → Prop} (hgd : o.guard = none) (t : TypeId) (i j : Nat) (x y : Operand) (ho : o.op = .build t #[(i, x), (j, y)]) {vx vy : Value} (hx : a.eval x = vx) (hy : a.eval y = vy) {cells : Array Value} (h : P.built t [(i, vx), (j, vy)] = some cells)
    (hK : wpList P ops Q rest (a.put o.dst (.agg cells)) w) : wpList P ops Q (o :: rest) a w := wpList_run hgd (exec_build2 ho hx hy h) hK
def okP (o : Option Pf) : Pf := o.getD zeroP
def OfR (o : Option Pf) (e : Ending) : Prop := e = .returned (.tuple #[vPf (okP o), .int .i64 (if o.isSome then 0 else 2)])
set_option maxRecDepth 100000 in
set_option maxHeartbeats 1600000 in
theorem of_yes {w : World} {a : List Int} (ha : isA a) {n f off : Int} (hf : fam a = f) (ho : offOf f = off) (o0 : 0 ≤ off) (o1 : off ≤ 96) (h0 : 0 ≤ n) (h1 : n ≤ 128 - off) : Calls Tryz.prog 53 #[vA a, .int .i64 n] w fun e w' => OfR (ofP a n) e ∧ Below w.heap.size w w' := by
  have hr : ofP a n = some ⟨msk a (off + n), off + n⟩ := by unfold ofP; rw [hf, ho, if_pos ⟨h0, h1⟩]
  have hm := isA_msk ha (off + n)
  have B0 := Bx.start2 w (oA a) (oP zeroP)
  replace hr := Lib.hid hr
  have Ha := Lib.hid ha
  replace hm := Lib.hid hm
  have hfa := fun {W : World} => fam_any (w := W) ha
  rw [hf] at hfa
  have hsh := fun {W : World} => shared_any (w := W) f
  rw [ho] at hsh
  clear ha hf ho
  unfold vA
  go_enter Tryz.func53, Tryz.ntmps53
  go_wp2_with (first
    | (refine wpList_load_mid rfl 42 (.tmp 2) rfl w.heap.size 0 rfl (nums .u8 a) _ (row_load B0.2.1.1) Tryz.underlying42 rfl (info42 Ha.out) ?_)
    | (go_at_call 32; refine hfa.mono ?_; clear hfa; rintro e w1 ⟨rfl, bel⟩; have B1 := B0.go bel; clear bel)
    | (go_at_call 122; refine hsh.mono ?_; clear hsh; rintro e w2 ⟨rfl, rfl⟩)
    | (refine wpList_load_mid rfl 42 (.tmp 2) rfl w.heap.size 0 rfl (nums .u8 a) _ (row_load B1.2.1.1) Tryz.underlying42 rfl (info42 Ha.out) ?_)
    | (go_at_call 111; refine (masked_any Ha.out (off + n) (by omega) (by omega)).mono ?_; rintro e w3 ⟨rfl, bel⟩; have B2 := B1.go bel; clear bel)
    | (refine wpList_build2 rfl 55 0 1 (.tmp 23) (.tmp 26) rfl (vx := vA (msk a (off + n))) (vy := .int .i64 (off + n)) rfl rfl (built55 hm.out) ?_)
    | (refine wpList_store_row rfl 55 (.tmp 4) (.tmp 27) rfl (w.heap.size + 1) _ rfl rfl 55 (pCs zeroA 0).toArray B2.2.1.2.1 (info55 hm.out _) (by rw [pCs_size zeroA_ok, pCs_size hm.out]) (pCs_one _ _) ?_))
  refine bodyPost_ret (v := .tuple #[vPf ⟨msk a (off + n), off + n⟩, .int .i64 0]) ?_ rfl ⟨by unfold OfR; rw [hr.out]; rfl, below_row B2.1 (Nat.le_succ _) _⟩
  exact results_cell_tmp rfl _ _ rfl (BoxP.run (p := ⟨msk a (off + n), off + n⟩) (setRow_heap _ _ _ _ _ _ B2.2.1.2.1) hm.out).2.2 rfl
set_option maxRecDepth 100000 in
set_option maxHeartbeats 1600000 in
theorem of_no {w : World} {a : List Int} (ha : isA a) {n f off : Int} (hf : fam a = f) (ho : offOf f = off) (o0 : 0 ≤ off) (o1 : off ≤ 96) (h : n < 0 ∨ 0 ≤ n ∧ 128 - off < n) : Calls Tryz.prog 53 #[vA a, .int .i64 n] w fun e w' => OfR (ofP a n) e ∧ Below w.heap.size w w' := by
  have hr : ofP a n = none := by unfold ofP; rw [hf, ho, if_neg (by omega)]
  have B0 := Bx.start2 w (oA a) (oP zeroP)
  replace hr := Lib.hid hr
  have Ha := Lib.hid ha
  have hfa := fun {W : World} => fam_any (w := W) ha
  rw [hf] at hfa
  have hsh := fun {W : World} => shared_any (w := W) f
  rw [ho] at hsh
  clear ha hf ho
  unfold vA
  rcases h with h | ⟨h, h'⟩
  all_goals
    go_enter Tryz.func53, Tryz.ntmps53
    go_wp2_with (first
      | (refine wpList_load_mid rfl 42 (.tmp 2) rfl w.heap.size 0 rfl (nums .u8 a) _ (row_load B0.2.1.1) Tryz.underlying42 rfl (info42 Ha.out) ?_)
      | (go_at_call 32; refine hfa.mono ?_; clear hfa; rintro e w1 ⟨rfl, bel⟩; have B1 := B0.go bel; clear bel)
      | (go_at_call 122; refine hsh.mono ?_; clear hsh; rintro e w2 ⟨rfl, rfl⟩)
      | (refine wpList_store_row rfl 55 (.tmp 4) (.tmp 18) rfl (w.heap.size + 1) (pCs zeroA 0).toArray rfl rfl 55 (pCs zeroA 0).toArray B1.2.1.2.1 (info55 zeroA_ok _) rfl (pCs_one _ _) ?_))
    refine bodyPost_ret (v := .tuple #[vPf zeroP, .int .i64 2]) ?_ rfl ⟨by unfold OfR; rw [hr.out]; rfl, below_row B1.1 (Nat.le_succ _) _⟩
    exact results_cell_tmp rfl _ _ rfl (BoxP.run (p := zeroP) (setRow_heap _ _ _ _ _ _ B1.2.1.2.1) zeroA_ok).2.2 rfl
/-- Of. -/
theorem of_any {w : World} {a : List Int} (ha : isA a) (n : Int) : Calls Tryz.prog 53 #[vA a, .int .i64 n] w fun e w' => OfR (ofP a n) e ∧ Below w.heap.size w w' := by
  have ho : 0 ≤ offOf (fam a) ∧ offOf (fam a) ≤ 96 := by unfold offOf; split <;> omega
  by_cases h0 : n < 0
  · exact of_no ha rfl rfl ho.1 ho.2 (.inl h0)
  · by_cases h1 : 128 - offOf (fam a) < n
    · exact of_no ha rfl rfl ho.1 ho.2 (.inr ⟨by omega, h1⟩)
    · exact of_yes ha rfl rfl ho.1 ho.2 (by omega) (by omega)
end Go.Proofs.YtnljjlaececnkaaGreatDoor
/-
  What the calls of the stage's first line answer: closed facts. No condition.
-/
namespace Go.Proofs.YtnljjlaececnkaaGreatDoor
open Go.RowKit
set_option linter.unusedVariables false
set_option linter.unusedSimpArgs false
def aV : List Int := mapd ++ [10, 1, 2, 3]
def bV : List Int := [32, 1, 13, 184, 0, 0, 0, 0, 0, 1, 0, 0, 0, 0, 0, 1]
def cV : List Int := mapd ++ [10, 0, 0, 1]
def pV : Pf := ⟨mapd ++ [10, 0, 0, 0], 104⟩
def qV : Pf := ⟨mapd ++ [10, 1, 0, 0], 112⟩
def pP : Pr := ⟨pV, anyP (pfam pV)⟩
def qP : Pr := ⟨qV, anyP (pfam qV)⟩
theorem aV_ok : isA aV := ⟨rfl, by decide⟩
theorem bV_ok : isA bV := ⟨rfl, by decide⟩
theorem cV_ok : isA cV := ⟨rfl, by decide⟩
theorem pV_ok : pV.ok := ⟨⟨rfl, by decide⟩, rfl⟩
theorem qV_ok : qV.ok := ⟨⟨rfl, by decide⟩, rfl⟩
theorem pP_fit : pP.fit := ⟨pV_ok, any_ok _⟩
theorem qP_fit : qP.fit := ⟨qV_ok, any_ok _⟩
theorem aV_print : printS aV = [49, 48, 46, 49, 46, 50, 46, 51] := by decide +kernel
theorem bV_print : groupedS bV = [50, 48, 48, 49, 58, 100, 98, 56, 58, 58, 49, 58, 48, 58, 48, 58, 49] := by decide +kernel
theorem bV_fam : fam bV = 6 := by decide +kernel
theorem aV_fam : fam aV = 4 := by decide +kernel
theorem aV_parse : parseS ⟨#[49, 48, 46, 49, 46, 50, 46, 51]⟩ = some aV := by have := parse_print aV_ok; rw [aV_print] at this; exact this
theorem bV_parse : parseS ⟨#[50, 48, 48, 49, 58, 100, 98, 56, 58, 58, 49, 58, 48, 58, 48, 58, 49]⟩ = some bV := by
  have := parse_print bV_ok
  unfold printS at this
  rw [bV_fam, if_neg (by decide), bV_print] at this; exact this
theorem pV_chk : chk pV = true := by decide +kernel
theorem qV_chk : chk qV = true := by decide +kernel
theorem pV_print : pfxS pV = [49, 48, 46, 48, 46, 48, 46, 48, 47, 56] := by decide +kernel
theorem qV_print : pfxS qV = [49, 48, 46, 49, 46, 48, 46, 48, 47, 49, 54] := by decide +kernel
theorem pV_parse : parsePS ⟨#[49, 48, 46, 48, 46, 48, 46, 48, 47, 56]⟩ = (pV, 0) := by have := back_pfx pV_ok.1 pV_chk; rw [pV_print] at this; exact this
theorem qV_parse : parsePS ⟨#[49, 48, 46, 49, 46, 48, 46, 48, 47, 49, 54]⟩ = (qV, 0) := by have := back_pfx qV_ok.1 qV_chk; rw [qV_print] at this; exact this
theorem one_piece {l : List UInt8} (h : ∀ c ∈ l, c ≠ 32) : pieces ⟨l.toArray⟩ ⟨#[32]⟩ = [⟨l.toArray⟩] := by
  rw [pieces_eq]
  unfold cutB
  rw [List.toList_toArray, cutL_miss h]; rfl
theorem pV_one : pieces ⟨#[49, 48, 46, 48, 46, 48, 46, 48, 47, 56]⟩ ⟨#[32]⟩ = [⟨#[49, 48, 46, 48, 46, 48, 46, 48, 47, 56]⟩] := one_piece (l := [49, 48, 46, 48, 46, 48, 46, 48, 47, 56]) (by decide)
theorem qV_one : pieces ⟨#[49, 48, 46, 49, 46, 48, 46, 48, 47, 49, 54]⟩ ⟨#[32]⟩ = [⟨#[49, 48, 46, 49, 46, 48, 46, 48, 47, 49, 54]⟩] := one_piece (l := [49, 48, 46, 49, 46, 48, 46, 48, 47, 49, 54]) (by decide)
theorem pP_chk : chkPP pP = true := by decide +kernel
theorem qP_chk : chkPP qP = true := by decide +kernel
theorem pP_mat : mat pP aV aV = true := by decide +kernel
theorem qP_mat : mat qP aV aV = true := by decide +kernel
theorem cV_dot : dottedS cV = [49, 48, 46, 48, 46, 48, 46, 49] := by decide +kernel
theorem eight : Lib.itoa 8 = [56] := by decide +kernel
theorem cV_parse : parsePS ⟨#[49, 48, 46, 48, 46, 48, 46, 49, 47, 56]⟩ = (zeroP, 21) := by
  have hcut : Lib.cut (⟨#[49, 48, 46, 48, 46, 48, 46, 49, 47, 56]⟩ : ByteArray).data.toList slashB.data.toList = (dottedS cV, Lib.itoa 8, true) := by
    have := cut_byte (c := 47) (p := dottedS cV) (fun c hc => (dotted_bytes cV_ok c hc).1) (Lib.itoa 8)
    rw [cV_dot, eight] at this ⊢
    exact this
  rw [raw_q hcut (decS_itoa (by decide) (by decide)) (quad_dotted cV_ok (by decide +kernel))]
  exact if_neg (by decide +kernel)
theorem best_V {k : Nat} {ok : Bool} (h : IsBest [pP, qP] aV aV 2 k ok) : k = 1 ∧ ok = true := by
  cases ok with
  | false => have := (h.no rfl).2 0 pP (by decide) rfl; rw [pP_mat] at this; cases this
  | true =>
    refine ⟨?_, rfl⟩
    obtain ⟨hk, b, hb, -, hall⟩ := h.yes rfl
    have h1 := hall 1 qP (by decide) rfl qP_mat
    match k, hk, hb with
    | 0, _, hb =>
      cases hb
      exact absurd h1 (by decide +kernel)
    | 1, _, _ => rfl
theorem cmp_V : cmpA aV bV = -1 := by decide +kernel
end Go.Proofs.YtnljjlaececnkaaGreatDoor
