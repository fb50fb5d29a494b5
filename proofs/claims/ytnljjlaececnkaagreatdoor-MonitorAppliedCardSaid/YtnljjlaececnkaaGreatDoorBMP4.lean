/-
  Merged texts (XC, T, U, PB, V, Y, Z, BA, BB, BC, BE, CB, CA, CC, CD, EA, CE, CF, CG, CH, CI, EB), part 4 of 12. Conditions: each part's own, told at its head.
-/
import Derived.Test.YtnljjlaececnkaaGreatDoorBMP1
import Derived.Test.YtnljjlaececnkaaGreatDoorBMP2
import Derived.Test.YtnljjlaececnkaaGreatDoorBMP3
import Derived.Lib.BytesEntry
import Derived.Laws.Externs
import Derived.Great.BuildSlice
import Derived.Lib.ItoaLen
import Derived.Defers
import Derived.Laws.Pointers
import Derived.Laws.LoneSync
import Derived.RegionTactic
import Derived.RegionCalls
import Derived.ChangeAlike
import Derived.Laws.MakeOwn
/-
  grouped: the text of an address of sixteen bytes in groups. Condition: the variables hold what their initialisers laid; an address is sixteen bytes.
-/
namespace Go.Proofs.YtnljjlaececnkaaGreatDoor
open Go.RowKit
set_option linter.unusedVariables false
set_option linter.unusedSimpArgs false
/-- A group of an address. -/
def gr (a : List Int) (i : Nat) : Nat := (a.getD (2 * i) 0 * 256 + a.getD (2 * i + 1) 0).toNat
def groups (a : List Int) : List Nat := (List.range 8).map (gr a)
theorem groups_len (a : List Int) : (groups a).length = 8 := by simp [groups]
theorem groups_get {a : List Int} {j : Nat} (h : j < 8) : (groups a)[j]? = some (gr a j) := by simp [groups, h]
theorem isA_getD {a : List Int} (ha : isA a) {j : Nat} (h : j < 16) : ∃ x, a[j]? = some x ∧ a.getD j 0 = x ∧ 0 ≤ x ∧ x < 256 := by
  obtain ⟨x, hx⟩ := get_some (l := a) (j := j) (by rw [ha.1]; exact h)
  exact ⟨x, hx, by rw [List.getD_eq_getElem?_getD, hx]; rfl, ha.2 x (List.mem_of_getElem? hx)⟩
theorem groups_lt {a : List Int} (ha : isA a) : ∀ u ∈ groups a, u < 65536 := by
  intro u hu
  simp [groups] at hu
  obtain ⟨i, hi, rfl⟩ := hu
  obtain ⟨x, -, hx, x0, x1⟩ := isA_getD ha (j := 2 * i) (by omega)
  obtain ⟨y, -, hy, y0, y1⟩ := isA_getD ha (j := 2 * i + 1) (by omega)
  unfold gr; rw [hx, hy]; omega
theorem or_bytes {x y : Int} (x0 : 0 ≤ x) (x1 : x < 256) (y0 : 0 ≤ y) (y1 : y < 256) : bits .or .u16 (x * 256) y = x * 256 + y := by
  have w : ∀ n : Int, 0 ≤ n → n < 2 ^ 16 → IntKind.u16.wrap n = n := fun n h0 h1 => by rw [IntKind.wrap_u16]; omega
  exact bits_join .u16 16 (by decide) w 8 (x * 256) y (by omega) (by simp) (by simp; omega) y0 (by simpa using y1) (by simp; omega)
/-- The row of groups while it is filled. -/
def grT (a : List Int) (j : Nat) : List Nat := (groups a).take j ++ List.replicate (8 - j) 0
theorem grT_step {a : List Int} {j : Nat} (h : j < 8) : (grT a j)[j]? = some 0 ∧ (grT a j).set j (gr a j) = grT a (j + 1) := by
  have hl : ((groups a).take j).length = j := by simp [groups_len]; omega
  unfold grT
  refine ⟨?_, ?_⟩
  · rw [List.getElem?_append_right (by omega), hl, Nat.sub_self, List.getElem?_replicate, if_pos (by omega)]
  · rw [List.set_append_right _ _ (by omega), hl, Nat.sub_self, show 8 - j = (8 - (j + 1)) + 1 by omega, List.replicate_succ, List.set_cons_zero, take_snoc (groups_get h), List.append_assoc]; rfl
theorem grT_all (a : List Int) : grT a 8 = groups a := by simp [grT, groups_len, List.take_of_length_le]
theorem u16s_set (l : List Nat) (i y : Nat) : (u16s l).set i (.int .u16 (y : Int)) = u16s (l.set i y) := by simp [u16s, List.map_set]
theorem u16s_get {l : List Nat} {j u : Nat} (h : l[j]? = some u) : (u16s l)[j]? = some (.int .u16 (u : Int)) := by simp [u16s, h]
/-- grouped. -/
def groupedS (a : List Int) : List UInt8 :=
  let l := groups a; let r := runAt l 8
  if r.2 = r.1 then joinS l else joinS (l.take r.1) ++ [58, 58] ++ joinS (l.drop r.2)
theorem str_add (W : World) (l r : List UInt8) (h : l.length + r.length ≤ 9223372036854775807) : (binOp .add 9 (.string ⟨l.toArray⟩) (.string ⟨r.toArray⟩)).run Tryz.prog W = .ok (.string ⟨(l ++ r).toArray⟩) W := by
  have hs : ¬ ((⟨l.toArray⟩ : ByteArray).size + (⟨r.toArray⟩ : ByteArray).size > 9223372036854775807) := by
    show ¬ (l.toArray.size + r.toArray.size > _); simp; omega
  have he : (⟨l.toArray⟩ : ByteArray) ++ ⟨r.toArray⟩ = ⟨(l ++ r).toArray⟩ := by
    apply ByteArray.ext; simp
  rw [binOp_string_add]
  refine (run_string_add_sum (P := Tryz.prog) (w := W) ⟨l.toArray⟩ ⟨r.toArray⟩ (by omega)).trans ?_
  exact congrArg (fun s => Result.ok (Value.string s) W) he
theorem quiet_add {P : Program} {C : World → Prop} {o : Oper} {a : Act} {w : World} {r : Value} {t t' : TypeId} {x y : Operand} {b1 b2 : ByteArray} (ho : o.op = .binOp .add t x y t') (hx : a.eval x = .string b1) (hy : a.eval y = .string b2)
    (h : (binOp .add t (.string b1) (.string b2)).run P w = .ok r w) : Oper.quietAt P o a C w r := by
  unfold Oper.quietAt execOp
  simp only [ho, hx, hy, Sem.run_bind, eqGuard, Bool.not_false, if_true, Sem.run_pure, Result.andThen_ok, h]
  exact ⟨rfl, rfl⟩
def offE (k : Nat) : Nat := if k = 8 then 0 else k
theorem slice217_low (W : World) (g : Nat) {k : Nat} (hk : k ≤ 8) : (Instr.sliceAt 217 (.pointer (some ⟨g, 0, none⟩)) (some (.int .i64 (k : Int))) none none).run Tryz.prog W = .ok (.slice (some ⟨g, offE k, none⟩) (8 - k) (8 - k)) W := by
  have a16 : Tryz.prog.arrayLen 217 = 8 := by kernel_rfl
  have e5 : Tryz.prog.elem 217 = 105 := by kernel_rfl
  have hs : (sizeOf 105).run Tryz.prog W = .ok 1 W := by kernel_rfl
  have h := run_sliceAt_array_l (P := Tryz.prog) W 217 ⟨g, 0, none⟩ (by kernel_rfl) .i64 (k : Int) (by omega) (by rw [a16]; omega)
  rw [h, e5, hs, a16]
  unfold offE
  by_cases h0 : k = 8
  · subst h0; simp [Result.andThen, slicedAt]
  · have h1 : 8 ≠ k := by omega
    simp [Result.andThen, slicedAt, h0, h1, Addr.add]
    try omega
theorem slice217_high (W : World) (g : Nat) {k : Nat} (hk : k ≤ 8) : (Instr.sliceAt 217 (.pointer (some ⟨g, 0, none⟩)) none (some (.int .i64 (k : Int))) none).run Tryz.prog W = .ok (.slice (some ⟨g, 0, none⟩) k 8) W := by
  have a16 : Tryz.prog.arrayLen 217 = 8 := by kernel_rfl
  have e5 : Tryz.prog.elem 217 = 105 := by kernel_rfl
  have hs : (sizeOf 105).run Tryz.prog W = .ok 1 W := by kernel_rfl
  have h := run_sliceAt_array_h (P := Tryz.prog) W 217 ⟨g, 0, none⟩ (by kernel_rfl) .i64 (k : Int) (by omega) (by rw [a16]; omega)
  rw [h, e5, hs, a16]
  simp [Result.andThen, slicedAt, Addr.add]
theorem join_part {W : World} (E : Env W) {l : List Nat} {g k m c : Nat} {A : Option Addr} (hr : W.heap[g]? = some (oG l)) (hl : l.length = 8) (hu : ∀ u ∈ l, u < 65536) (hkm : k + m ≤ 8) (hc : m ≤ c) (hc2 : c ≤ 8) (hA : A ≠ none) (hA2 : 0 < m → A = some ⟨g, k, none⟩) :
    Calls Tryz.prog 164 #[.slice A m c] W fun e w' => e = .returned (.string ⟨(joinS ((l.drop k).take m)).toArray⟩) ∧ Below W.heap.size W w' := by
  have hlen : ((l.drop k).take m).length = m := by rw [List.length_take, List.length_drop]; omega
  refine join_any E (l := (l.drop k).take m) (by omega) (fun u h => hu u (List.mem_of_mem_drop (List.mem_of_mem_take h))) ?_
  rw [hlen]
  refine ⟨by rw [u16s_len, hlen]; omega, A, c, rfl, hc, (by unfold maxLen; omega), (fun h => absurd h hA), fun x hx hm => ⟨g, k, ?_, by have := lt_of_obj hr; omega, lt_of_obj hr, fun j u hj => ?_⟩⟩
  · rw [hA2 hm] at hx; exact (Option.some.inj hx).symm
  · have hj2 : (u16s l)[k + j]? = some u := by
      unfold u16s at hj ⊢
      rw [List.getElem?_map] at hj ⊢
      by_cases hjm : j < m
      · rwa [List.getElem?_take_of_lt hjm, List.getElem?_drop] at hj
      · rw [List.getElem?_eq_none (by omega)] at hj; cases hj
    have := row_load hr (k + j) u hj2
    rwa [Nat.zero_add] at this
set_option maxRecDepth 100000 in
set_option maxHeartbeats 1600000 in
theorem grouped_any {w : World} (E : Env w) {a : List Int} (ha : isA a) : Calls Tryz.prog 106 #[vA a] w fun e w' => e = .returned (.string ⟨(groupedS a).toArray⟩) ∧ Below w.heap.size w w' := by
  have Ha := Lib.hid ha
  clear ha
  unfold vA
  go_enter Tryz.func106, Tryz.ntmps106
  go_wp2
  go_loopw [8] (fun x wr => ∃ j : Nat, x = .int .i64 j ∧ j ≤ 8 ∧ wr.heap[w.heap.size]? = some (oA a) ∧ wr.heap[w.heap.size + 1]? = some (oG (grT a j)) ∧ Below w.heap.size w wr) (fun x wr => 8 - (intOf x).toNat)
  case atStart =>
    exact ⟨0, rfl, by omega, box21 w _ _, by rw [show grT a 0 = [0, 0, 0, 0, 0, 0, 0, 0] from by simp [grT, List.replicate]]; exact box22 w _ _, ((Below.refl _ _).alloc (Nat.le_refl _) _).alloc (by simp) _⟩
  case round =>
    obtain ⟨j, rfl, hj, hr, hr2, bel⟩ := hrel
    by_cases hlt : j < 8
    · obtain ⟨x, hx, hx2, x0, x1⟩ := isA_getD Ha.out (j := 2 * j) (by omega)
      obtain ⟨y, hy, hy2, y0, y1⟩ := isA_getD Ha.out (j := 2 * j + 1) (by omega)
      obtain ⟨m1, m2⟩ := grT_step (a := a) hlt
      have hg : ((gr a j : Nat) : Int) = x * 256 + y := by unfold gr; rw [hx2, hy2]; omega
      have hor := or_bytes x0 x1 y0 y1
      have hj8 : decide ((j : Int) < 8) = true := decide_eq_true (by omega)
      replace m2 := Lib.hid m2
      replace m1 := Lib.hid m1
      replace hx := Lib.hid hx
      replace hy := Lib.hid hy
      replace hor := Lib.hid hor
      replace hg := Lib.hid hg
      replace hr := Lib.hid hr
      replace hr2 := Lib.hid hr2
      clear hx2 hy2
      go_wp2_with fail
      refine wp_region_tail 15 (by kernel_rfl) (by kernel_rfl) ?_
      intro w2 hw2
      have row2 : w2.heap[w.heap.size + 1]? = some (oG (grT a j)) := by rw [hw2]; exact hr2.out
      have row3 : w2.heap[w.heap.size]? = some (oA a) := by rw [hw2]; exact hr.out
      have bel2 : Below w.heap.size w w2 := by rw [hw2]; exact ⟨bel.os, bel.tape, bel.output, bel.size, bel.block⟩
      clear hw2 bel hr hr2
      have c1 : w2.cell? ⟨w.heap.size, 2 * j, none⟩ = some (.int .u8 x) := (row_cell row3).trans (by rw [List.getElem?_toArray]; exact nums_get hx.out)
      have c2 : w2.cell? ⟨w.heap.size, 2 * j + 1, none⟩ = some (.int .u8 y) := (row_cell row3).trans (by rw [List.getElem?_toArray]; exact nums_get hy.out)
      have c3 : w2.cell? ⟨w.heap.size + 1, j, none⟩ = some (.int .u16 ((0 : Nat) : Int)) := (row_cell row2).trans (by rw [List.getElem?_toArray]; exact u16s_get m1.out)
      have f1 : w2.frozen? ⟨w.heap.size + 1, j, none⟩ = false := row_free row2
      have row4 := Lib.hid (row_set row2 (i := j) (cs' := (u16s (grT a (j + 1))).toArray) (.int .u16 (x * 256 + y)) (by rw [List.setIfInBounds_toArray, ← hg.out, u16s_set, m2.out]))
      have g1 : Fr (fun b => b = w.heap.size + 1) w2 (w2.setCell ⟨w.heap.size + 1, j, none⟩ (.int .u16 (x * 256 + y))) := Fr.setCell (S := fun b => b = w.heap.size + 1) (Fr.refl _ w2) (p := ⟨w.heap.size + 1, j, none⟩) (.inl rfl) _
      have row5 := Lib.hid (g1.obj row3 (by omega))
      have bel3 := bel2.trans (g1.belowS (fun b hb => by omega) bel2.size)
      replace row2 := Lib.hid row2
      replace row3 := Lib.hid row3
      simp only [List.take_succ_cons, List.take_zero, List.drop_succ_cons, List.drop_zero]
      have hw1 : IntKind.i64.wrap (2 * (j : Int)) = 2 * (j : Int) := by rw [IntKind.wrap_i64]; omega
      have hw2 : IntKind.i64.wrap (2 * (j : Int) + 1) = 2 * (j : Int) + 1 := by rw [IntKind.wrap_i64]; omega
      have hn1 : (2 * (j : Int)).toNat = 2 * j := by omega
      have hn2 : (2 * (j : Int) + 1).toNat = 2 * j + 1 := by omega
      have hi1 : (0 : Int) ≤ 2 * (j : Int) := by omega
      have hi2 : 2 * (j : Int) < 16 := by omega
      have hi3 : (0 : Int) ≤ 2 * (j : Int) + 1 := by omega
      have hi4 : 2 * (j : Int) + 1 < 16 := by omega
      repeat still_step
      have wx : IntKind.u16.wrap x = x := by rw [IntKind.wrap_u16]; omega
      have wy : IntKind.u16.wrap y = y := by rw [IntKind.wrap_u16]; omega
      have wxx : IntKind.u16.wrap (x * 256) = x * 256 := by rw [IntKind.wrap_u16]; omega
      rw [wx, wxx, wy, hor.out]
      have hi5 : (j : Int) < 8 := by omega
      repeat still_step
      refine wpStill_nil ?_
      go_wp2_with fail
      go_roundw
      case rel => exact ⟨j + 1, by go_num, by omega, row5.out, row4.out, bel3⟩
      case measure => simp [intOf]; omega
    · obtain rfl : j = 8 := by omega
      rw [grT_all] at hr2
      have hr8 : Hid (w.heap.size + 1 < wr.heap.size) := Lib.hid (lt_of_obj hr2)
      have hrun := run_any (w := wr) (groups_len a) (groups_lt Ha.out)
      have hle := runAt_le (groups a) 8 (by rw [groups_len]; decide)
      have hgs : Hid (groupedS a = if (runAt (groups a) 8).2 = (runAt (groups a) 8).1 then joinS (groups a) else joinS ((groups a).take (runAt (groups a) 8).1) ++ [58, 58] ++ joinS ((groups a).drop (runAt (groups a) 8).2)) := Lib.hid rfl
      have hlt8 := Lib.hid (groups_lt Ha.out)
      have hlen8 := Lib.hid (groups_len a)
      obtain ⟨lo, hi, hlh⟩ : ∃ lo hi, runAt (groups a) 8 = (lo, hi) := ⟨_, _, rfl⟩
      rw [hlh] at hrun hle hgs
      simp only at hrun hle hgs
      rw [groups_len] at hle
      obtain ⟨hle1, hle2⟩ := hle
      generalize hL : groups a = L at *
      have hbx : Hid (Bx w w.heap.size [(w.heap.size, oA a), (w.heap.size + 1, oG L)] wr) := Lib.hid ⟨bel, ⟨hr, hr2, trivial⟩, bel.size⟩
      replace hr := Lib.hid hr
      have lr := row_load hr2
      replace hr2 := Lib.hid hr2
      by_cases he : hi = lo
      · replace hgs := hgs.out.trans (if_pos he)
        subst he
        replace hgs := Lib.hid hgs
        go_wp2_with (first | (refine wpList_load_mid rfl 217 (.tmp 3) rfl (w.heap.size + 1) 0 rfl (u16s L) _ lr Tryz.underlying217 rfl (by rw [size217, u16s_len, hlen8.out]) ?_) | (go_at_call 165; refine hrun.mono ?_; clear hrun; rintro e w1 ⟨rfl, bel1⟩; have hbx1 := Lib.hid (hbx.out.go bel1)) | (go_at_call 164; refine (join_part (k := 0) (m := 8) (E.go hbx1.out.1).2 hbx1.out.2.1.2.1 hlen8.out hlt8.out (by omega) (by omega) (by omega) (by simp) (fun _ => rfl)).mono ?_; rintro e w2 ⟨rfl, bel2⟩))
        go_ret
        have e0 : (L.drop 0).take 8 = L := by rw [List.drop_zero, List.take_of_length_le (Nat.le_of_eq hlen8.out)]
        exact ⟨congrArg (fun x : List UInt8 => Ending.returned (.string ⟨x.toArray⟩)) (show joinS (L.take 8) = groupedS a by rw [hgs.out, ← e0, List.drop_zero, List.take_take]; rfl), hbx1.out.1.trans (bel2.mono hbx1.out.2.2)⟩
      · have hgs2 := Lib.hid (hgs.out.trans (if_neg he))
        clear hgs
        have hel : decide ((hi : Int) = lo) = false := decide_eq_false (by omega)
        go_wp2_with (first | (refine wpList_load_mid rfl 217 (.tmp 3) rfl (w.heap.size + 1) 0 rfl (u16s L) _ lr Tryz.underlying217 rfl (by rw [size217, u16s_len, hlen8.out]) ?_) | (go_at_call 165; refine hrun.mono ?_; clear hrun; rintro e w1 ⟨rfl, bel1⟩; have hbx1 := Lib.hid (hbx.out.go bel1)))
        have hs1 := fun W => slice217_high W (w.heap.size + 1) (k := lo) (by omega)
        have hs2 := fun W => slice217_low W (w.heap.size + 1) (k := hi) hle2
        obtain ⟨j1, hj1⟩ : ∃ j, joinS (L.take lo) = j := ⟨_, rfl⟩
        obtain ⟨j2, hj2⟩ : ∃ j, joinS (L.drop hi) = j := ⟨_, rfl⟩
        have hl1 : j1.length ≤ 40 := by rw [← hj1]; have := join_len (L.take lo) (fun u h => hlt8.out u (List.mem_of_mem_take h)); have := hlen8.out; rw [List.length_take] at *; omega
        have hl2 : j2.length ≤ 40 := by rw [← hj2]; have := join_len (L.drop hi) (fun u h => hlt8.out u (List.mem_of_mem_drop h)); have := hlen8.out; rw [List.length_drop] at *; omega
        have ht1 : joinS ((L.drop 0).take lo) = j1 := by rw [List.drop_zero, hj1]
        have ht2 : joinS ((L.drop hi).take (8 - hi)) = j2 := by rw [List.take_of_length_le (by rw [List.length_drop, hlen8.out]; omega), hj2]
        have ha1 := fun W => str_add W j1 [58, 58] (by simp; omega)
        have ha2 := fun W => str_add W (j1 ++ [58, 58]) j2 (by simp; omega)
        rw [hj1, hj2] at hgs2
        replace ht1 := Lib.hid ht1
        replace ht2 := Lib.hid ht2
        replace ha1 := Lib.hid ha1
        replace ha2 := Lib.hid ha2
        refine wp_region_C (C := Bx w w.heap.size [(w.heap.size, oA a), (w.heap.size + 1, oG L)]) (by kernel_rfl) (by kernel_rfl) (Bx.drew hbx1.out) ?_
        refine wpQuiet_hide ?_
        intro lq hlq
        refine wpQuiet_step_h hlq ?_
        clear hlq lq
        intro K lq hlq hK
        refine wanted_go (by rfl) ?_
        refine ⟨?_, fun W hW => ?_, ?_⟩
        rotate_left
        · skip
          go_simp
          with_reducible rfl
        refine hK _ ?_
        clear hK K
        (try simp only [Act.put, List.setIfInBounds_toArray, List.set_cons_zero, List.set_cons_succ])
        refine wpQuiet_step_h hlq ?_
        clear hlq lq
        intro K lq hlq hK
        refine wanted_go (by rfl) ?_
        refine ⟨?_, fun W hW => ?_, ?_⟩
        rotate_left
        · skip
          go_simp
          with_reducible rfl
        refine hK _ ?_
        clear hK K
        (try simp only [Act.put, List.setIfInBounds_toArray, List.set_cons_zero, List.set_cons_succ])
        refine wpQuiet_step_h hlq ?_
        clear hlq lq
        intro K lq hlq hK
        refine wanted_go (by rfl) ?_
        refine ⟨?_, fun W hW => ?_, ?_⟩
        rotate_left
        · skip
          go_simp
          with_reducible rfl
        refine hK _ ?_
        clear hK K
        (try simp only [Act.put, List.setIfInBounds_toArray, List.set_cons_zero, List.set_cons_succ])
        refine wpQuiet_step_h hlq ?_
        clear hlq lq
        intro K lq hlq hK
        refine wanted_go (by rfl) ?_
        refine ⟨.string ⟨j1.toArray⟩, fun W hW => ?_, ?_⟩
        · go_simp
          refine (join_part (k := 0) (m := lo) (E.go hW.1).2 hW.2.1.2.1 hlen8.out hlt8.out (by omega) (by omega) (by omega) (by simp) (fun _ => rfl)).mono fun e W2 hc2 => ⟨by rw [hc2.1, ht1.out], hW.go hc2.2⟩
        refine hK _ ?_
        clear hK K
        (try simp only [Act.put, List.setIfInBounds_toArray, List.set_cons_zero, List.set_cons_succ])
        refine wpQuiet_step_h hlq ?_
        clear hlq lq
        intro K lq hlq hK
        refine wanted_go (by rfl) ?_
        refine ⟨.string ⟨(j1 ++ [58, 58]).toArray⟩, fun W hW => ?_, ?_⟩
        · skip
          exact quiet_add rfl rfl rfl (ha1.out W)
        refine hK _ ?_
        clear hK K
        (try simp only [Act.put, List.setIfInBounds_toArray, List.set_cons_zero, List.set_cons_succ])
        refine wpQuiet_step_h hlq ?_
        clear hlq lq
        intro K lq hlq hK
        refine wanted_go (by rfl) ?_
        refine ⟨?_, fun W hW => ?_, ?_⟩
        rotate_left
        · skip
          go_simp
          with_reducible rfl
        refine hK _ ?_
        clear hK K
        (try simp only [Act.put, List.setIfInBounds_toArray, List.set_cons_zero, List.set_cons_succ])
        refine wpQuiet_step_h hlq ?_
        clear hlq lq
        intro K lq hlq hK
        refine wanted_go (by rfl) ?_
        refine ⟨?_, fun W hW => ?_, ?_⟩
        rotate_left
        · skip
          go_simp
          with_reducible rfl
        refine hK _ ?_
        clear hK K
        (try simp only [Act.put, List.setIfInBounds_toArray, List.set_cons_zero, List.set_cons_succ])
        refine wpQuiet_step_h hlq ?_
        clear hlq lq
        intro K lq hlq hK
        refine wanted_go (by rfl) ?_
        refine ⟨?_, fun W hW => ?_, ?_⟩
        rotate_left
        · skip
          go_simp
          with_reducible rfl
        refine hK _ ?_
        clear hK K
        (try simp only [Act.put, List.setIfInBounds_toArray, List.set_cons_zero, List.set_cons_succ])
        refine wpQuiet_step_h hlq ?_
        clear hlq lq
        intro K lq hlq hK
        refine wanted_go (by rfl) ?_
        refine ⟨.string ⟨j2.toArray⟩, fun W hW => ?_, ?_⟩
        · go_simp
          refine (join_part (k := hi) (m := 8 - hi) (E.go hW.1).2 hW.2.1.2.1 hlen8.out hlt8.out (by omega) (by omega) (by omega) (by simp) (fun h => by unfold offE; rw [if_neg (by omega)])).mono fun e W2 hc2 => ⟨by rw [hc2.1, ht2.out], hW.go hc2.2⟩
        refine hK _ ?_
        clear hK K
        (try simp only [Act.put, List.setIfInBounds_toArray, List.set_cons_zero, List.set_cons_succ])
        refine wpQuiet_step_h hlq ?_
        clear hlq lq
        intro K lq hlq hK
        refine wanted_go (by rfl) ?_
        refine ⟨.string ⟨(j1 ++ [58, 58] ++ j2).toArray⟩, fun W hW => ?_, ?_⟩
        · skip
          exact quiet_add rfl rfl rfl (ha2.out W)
        refine hK _ ?_
        clear hK K
        (try simp only [Act.put, List.setIfInBounds_toArray, List.set_cons_zero, List.set_cons_succ])
        refine wpQuiet_step_h hlq ?_
        clear hlq lq
        intro K lq hlq hK
        refine wanted_go (by rfl) ?_
        refine ⟨?_, fun W hW => ?_, ?_⟩
        rotate_left
        · skip
          go_simp
          with_reducible rfl
        refine hK _ ?_
        clear hK K
        (try simp only [Act.put, List.setIfInBounds_toArray, List.set_cons_zero, List.set_cons_succ])
        refine wpQuiet_nil_h hlq ?_
        clear hlq lq
        intro w' hC'
        go_wp2_with fail
        go_ret
        exact ⟨congrArg (fun x : List UInt8 => Ending.returned (.string ⟨x.toArray⟩)) (show j1 ++ 58 :: 58 :: j2 = groupedS a by rw [hgs2.out]; simp), hC'.1⟩
end Go.Proofs.YtnljjlaececnkaaGreatDoor
/-
  ParsePrefix. Condition: the variables hold what their initialisers laid; a text is no longer than memory has room for.
-/
namespace Go.Proofs.YtnljjlaececnkaaGreatDoor
open Go.RowKit
set_option linter.unusedVariables false
set_option linter.unusedSimpArgs false
theorem sixteen {a : List Int} (h : a.length = 16) : ∃ x0 x1 x2 x3 x4 x5 x6 x7 x8 x9 x10 x11 x12 x13 x14 x15, a = [x0, x1, x2, x3, x4, x5, x6, x7, x8, x9, x10, x11, x12, x13, x14, x15] := by
  match a, h with
  | [x0, x1, x2, x3, x4, x5, x6, x7, x8, x9, x10, x11, x12, x13, x14, x15], _ => exact ⟨x0, x1, x2, x3, x4, x5, x6, x7, x8, x9, x10, x11, x12, x13, x14, x15, rfl⟩
set_option maxRecDepth 100000 in
theorem built55 {a : List Int} {n : Int} (ha : isA a) : Tryz.prog.built 55 [(0, .agg (nums .u8 a).toArray), (1, .int .i64 n)] = some (pCs a n).toArray := by
  obtain ⟨x0, x1, x2, x3, x4, x5, x6, x7, x8, x9, x10, x11, x12, x13, x14, x15, rfl⟩ := sixteen ha.1
  kernel_rfl
set_option maxRecDepth 100000 in
theorem built57 {p q : Pf} (hp : isA p.a) (hq : isA q.a) : Tryz.prog.built 57 [(0, vPf p), (1, vPf q)] = some (pCs p.a p.n ++ pCs q.a q.n).toArray := by
  obtain ⟨a, n⟩ := p
  obtain ⟨b, m⟩ := q
  obtain ⟨x0, x1, x2, x3, x4, x5, x6, x7, x8, x9, x10, x11, x12, x13, x14, x15, rfl⟩ := sixteen hp.1
  obtain ⟨y0, y1, y2, y3, y4, y5, y6, y7, y8, y9, y10, y11, y12, y13, y14, y15, rfl⟩ := sixteen hq.1
  kernel_rfl
theorem decS_rng {s : ByteArray} {v : Int} (h : decS s 3 = some v) : 0 ≤ v ∧ v ≤ 999 := by
  unfold decS at h
  split at h
  · split at h
    · rename_i hc
      cases h
      obtain ⟨h1, h2, h3⟩ := hc
      refine ⟨h3, ?_⟩
      have hl : (Lib.itoa v).length = s.size := by rw [h2]; exact Array.length_toList
      unfold Lib.itoa at hl
      rw [if_neg (by omega)] at hl
      rw [Lib.decDigits_length] at hl
      have h4 := Lib.lt_pow_nDigits v.toNat
      have h5 : 10 ^ Lib.nDigits v.toNat ≤ 10 ^ 3 := Nat.pow_le_pow_right (by decide) (by omega)
      omega
    · cases h
  · cases h
theorem dec_is {w : World} (E : Env w) {t : ByteArray} {v : Int} (hs : t.size ≤ 140737488351232) (h : decS t 3 = some v) : Calls Tryz.prog 124 #[.string t, .int .i64 3] w fun e w' => e = .returned (.tuple #[.int .i64 v, .bool true]) ∧ Below w.heap.size w w' :=
  (dec_any E t hs 3).mono fun e w' ⟨⟨n, b, he, hb, hv⟩, bel⟩ => ⟨by rw [he, hb, hv v h, h]; rfl, bel⟩
theorem dec_isnt {w : World} (E : Env w) {t : ByteArray} (hs : t.size ≤ 140737488351232) (h : decS t 3 = none) : Calls Tryz.prog 124 #[.string t, .int .i64 3] w fun e w' => (∃ n, e = .returned (.tuple #[.int .i64 n, .bool false])) ∧ Below w.heap.size w w' :=
  (dec_any E t hs 3).mono fun e w' ⟨⟨n, b, he, hb, hv⟩, bel⟩ => ⟨⟨n, by rw [he, hb, h]; rfl⟩, bel⟩
theorem check_yes {w : World} {p : Pf} (hp : p.ok) (h : chk p = true) : Calls Tryz.prog 38 #[.agg (pCs p.a p.n).toArray] w fun e w' => e = .returned (.int .i64 0) ∧ Below w.heap.size w w' :=
  (check_any hp).mono fun e w' he => ⟨by rw [he.1, h]; rfl, he.2⟩
theorem check_nope {w : World} {p : Pf} (hp : p.ok) (h : chk p = false) : Calls Tryz.prog 38 #[.agg (pCs p.a p.n).toArray] w fun e w' => e = .returned (.int .i64 21) ∧ Below w.heap.size w w' :=
  (check_any hp).mono fun e w' he => ⟨by rw [he.1, h]; rfl, he.2⟩
theorem AllB.alloc {W : World} {l : List (Nat × Obj)} (h : AllB W l) (o : Obj) : AllB (W.alloc o) l := AllB.go ((Below.refl W.heap.size W).alloc (Nat.le_refl _) o) h
theorem Bx.alloc {w W : World} {N : Nat} {l : List (Nat × Obj)} (h : Bx w N l W) (o : Obj) : Bx w N ((W.heap.size, o) :: l) (W.alloc o) :=
  ⟨h.1.alloc h.2.2 o, ⟨box1 W o, h.2.1.alloc o⟩, by have := h.2.2; simp; omega⟩
theorem AllB.setRow {W : World} {g : Nat} {cs : Array Value} : ∀ {l : List (Nat × Obj)}, AllB W l → (∀ x ∈ l, x.1 ≠ g) → AllB (W.setRow g cs) l
  | [], _, _ => trivial
  | x :: l, ⟨h, r⟩, hn => ⟨by rw [setRow_other _ _ _ _ (hn x (by simp))]; exact h, AllB.setRow r (fun y hy => hn y (by simp [hy]))⟩
theorem Bx.set1 {w W : World} {N g : Nat} {l : List (Nat × Obj)} {old : Array Value} {t : TypeId} (h : Bx w N ((g, .cells old t (0, 0)) :: l) W) (cs : Array Value) (hN : N ≤ g) (hn : ∀ x ∈ l, x.1 ≠ g) : Bx w N ((g, .cells cs t (0, 0)) :: l) (W.setRow g cs) :=
  ⟨below_row h.1 hN cs, ⟨setRow_heap _ _ _ _ _ _ h.2.1.1, h.2.1.2.setRow hn⟩, by rw [setRow_size]; exact h.2.2⟩
def PPR (s : ByteArray) (e : Ending) : Prop := e = .returned (.tuple #[vPf (parsePS s).1, .int .i64 (parsePS s).2])
theorem zeroP_ok : zeroP.ok := ⟨zeroA_ok, rfl⟩
set_option maxRecDepth 100000 in
set_option maxHeartbeats 1600000 in
theorem pp_dq {w : World} (E : Env w) {s : ByteArray} (hs : s.size < 4294967281) {L R : ByteArray} {g : Bool} (hL : L.size ≤ s.size) (hR : R.size ≤ s.size) (hcut : ∀ {w : World}, Env w → Calls Tryz.prog 123 #[.string s, .string ⟨#[47]⟩] w fun e w' => e = .returned (.tuple #[.string L, .string R, .bool g]) ∧ Below w.heap.size w w') (hres : parsePS s = (zeroP, 20)) (hd : decS R 3 = none) {a : List Int} (ok : isA a) (hq : okA (quadS L) = a ∧ (quadS L).isSome = true) : Calls Tryz.prog 56 #[.string s] w fun e w' => PPR s e ∧ Below w.heap.size w w' := by
  have B0 := Bx.start1 w (oP zeroP)
  have E0 := (E.go B0.1).2
  replace hres := Lib.hid hres
  go_enter Tryz.func56, Tryz.ntmps56
  go_wp2_with (first
    | (go_at_call 123; refine (hcut E0).mono ?_; rintro e w1 ⟨rfl, bel⟩; have E1 := (E0.go bel).2; have B1 := B0.go bel; clear bel)
    | (go_at_call 124; refine (dec_isnt E1 (by omega) hd).mono ?_; rintro e w2 ⟨⟨n, rfl⟩, bel⟩; have E2 := (E1.go bel).2; have B2 := B1.go bel; clear bel)
    | (go_at_call 101; refine (quad_is E2 (by omega) hq).mono ?_; rintro e w3 ⟨rfl, bel⟩; have E3 := (E2.go bel).2; have LT3 := lt_of_obj (B2.go bel).2.1.1; have B3 := (B2.go bel).alloc (oA a); have E4 := (E3.go ((Below.refl w3.heap.size w3).alloc (Nat.le_refl _) (oA a))).2; clear bel)
    | (refine wpList_store_new rfl 42 (.tmp 10) (.tmp 28) rfl rfl rfl (info42 ok) (by rw [sizeA ok] <;> rfl) (numsA_one _) ?_)
    | (refine wpList_store_row rfl 55 (.tmp 2) (.tmp 43) rfl w.heap.size (pCs zeroA 0).toArray rfl rfl 55 (pCs zeroA 0).toArray B3.2.1.2.1 (info55 zeroA_ok _) rfl (pCs_one _ _) ?_))
  refine bodyPost_ret (v := .tuple #[vPf zeroP, .int .i64 20]) ?_ rfl ⟨by unfold PPR; rw [hres.out] <;> rfl, below_row B3.1 (Nat.le_refl _) _⟩
  exact results_cell_tmp rfl _ _ rfl (BoxP.run (p := zeroP) (setRow_heap _ _ _ _ _ _ B3.2.1.2.1) zeroA_ok).2.2 rfl
set_option maxRecDepth 100000 in
set_option maxHeartbeats 1600000 in
theorem pp_dc {w : World} (E : Env w) {s : ByteArray} (hs : s.size < 4294967281) {L R : ByteArray} {g : Bool} (hL : L.size ≤ s.size) (hR : R.size ≤ s.size) (hcut : ∀ {w : World}, Env w → Calls Tryz.prog 123 #[.string s, .string ⟨#[47]⟩] w fun e w' => e = .returned (.tuple #[.string L, .string R, .bool g]) ∧ Below w.heap.size w w') (hres : parsePS s = (zeroP, 20)) (hd : decS R 3 = none) (hq : okA (quadS L) = zeroA ∧ (quadS L).isSome = false) {a : List Int} (ok : isA a) (hcol : okA (colS L) = a ∧ (colS L).isSome = true) : Calls Tryz.prog 56 #[.string s] w fun e w' => PPR s e ∧ Below w.heap.size w w' := by
  have B0 := Bx.start1 w (oP zeroP)
  have E0 := (E.go B0.1).2
  replace hres := Lib.hid hres
  go_enter Tryz.func56, Tryz.ntmps56
  go_wp2_with (first
    | (go_at_call 123; refine (hcut E0).mono ?_; rintro e w1 ⟨rfl, bel⟩; have E1 := (E0.go bel).2; have B1 := B0.go bel; clear bel)
    | (go_at_call 124; refine (dec_isnt E1 (by omega) hd).mono ?_; rintro e w2 ⟨⟨n, rfl⟩, bel⟩; have E2 := (E1.go bel).2; have B2 := B1.go bel; clear bel)
    | (go_at_call 101; refine (quad_is E2 (by omega) hq).mono ?_; rintro e w3 ⟨rfl, bel⟩; have E3 := (E2.go bel).2; have LT3 := lt_of_obj (B2.go bel).2.1.1; have B3 := (B2.go bel).alloc (oA zeroA); have E4 := (E3.go ((Below.refl w3.heap.size w3).alloc (Nat.le_refl _) (oA zeroA))).2; clear bel)
    | (refine wpList_store_new rfl 42 (.tmp 10) (.tmp 28) rfl rfl rfl (info42 zeroA_ok) (by rw [sizeA zeroA_ok] <;> rfl) (numsA_one _) ?_)
    | (go_at_call 102; refine (col_is E4 (by omega) hcol).mono ?_; rintro e w4 ⟨rfl, bel⟩; have B4 := B3.go bel; have B5 := B4.set1 (nums .u8 a).toArray (Nat.le_of_lt LT3) (by intro x hx; simp at hx; subst hx; exact Nat.ne_of_lt LT3); clear bel)
    | (refine wpList_store_row rfl 42 (.tmp 10) (.tmp 35) rfl w3.heap.size _ rfl rfl 42 (nums .u8 zeroA).toArray B4.2.1.1 (info42 ok) (by rw [sizeA zeroA_ok, sizeA ok]) (numsA_one _) ?_)
    | (refine wpList_store_row rfl 55 (.tmp 2) (.tmp 43) rfl w.heap.size (pCs zeroA 0).toArray rfl rfl 55 (pCs zeroA 0).toArray B5.2.1.2.1 (info55 zeroA_ok _) rfl (pCs_one _ _) ?_))
  refine bodyPost_ret (v := .tuple #[vPf zeroP, .int .i64 20]) ?_ rfl ⟨by unfold PPR; rw [hres.out] <;> rfl, below_row B5.1 (Nat.le_refl _) _⟩
  exact results_cell_tmp rfl _ _ rfl (BoxP.run (p := zeroP) (setRow_heap _ _ _ _ _ _ B5.2.1.2.1) zeroA_ok).2.2 rfl
set_option maxRecDepth 100000 in
set_option maxHeartbeats 1600000 in
theorem pp_dn {w : World} (E : Env w) {s : ByteArray} (hs : s.size < 4294967281) {L R : ByteArray} {g : Bool} (hL : L.size ≤ s.size) (hR : R.size ≤ s.size) (hcut : ∀ {w : World}, Env w → Calls Tryz.prog 123 #[.string s, .string ⟨#[47]⟩] w fun e w' => e = .returned (.tuple #[.string L, .string R, .bool g]) ∧ Below w.heap.size w w') (hres : parsePS s = (zeroP, 20)) (hd : decS R 3 = none) (hq : okA (quadS L) = zeroA ∧ (quadS L).isSome = false) (hcol : okA (colS L) = zeroA ∧ (colS L).isSome = false) : Calls Tryz.prog 56 #[.string s] w fun e w' => PPR s e ∧ Below w.heap.size w w' := by
  have B0 := Bx.start1 w (oP zeroP)
  have E0 := (E.go B0.1).2
  replace hres := Lib.hid hres
  go_enter Tryz.func56, Tryz.ntmps56
  go_wp2_with (first
    | (go_at_call 123; refine (hcut E0).mono ?_; rintro e w1 ⟨rfl, bel⟩; have E1 := (E0.go bel).2; have B1 := B0.go bel; clear bel)
    | (go_at_call 124; refine (dec_isnt E1 (by omega) hd).mono ?_; rintro e w2 ⟨⟨n, rfl⟩, bel⟩; have E2 := (E1.go bel).2; have B2 := B1.go bel; clear bel)
    | (go_at_call 101; refine (quad_is E2 (by omega) hq).mono ?_; rintro e w3 ⟨rfl, bel⟩; have E3 := (E2.go bel).2; have LT3 := lt_of_obj (B2.go bel).2.1.1; have B3 := (B2.go bel).alloc (oA zeroA); have E4 := (E3.go ((Below.refl w3.heap.size w3).alloc (Nat.le_refl _) (oA zeroA))).2; clear bel)
    | (refine wpList_store_new rfl 42 (.tmp 10) (.tmp 28) rfl rfl rfl (info42 zeroA_ok) (by rw [sizeA zeroA_ok] <;> rfl) (numsA_one _) ?_)
    | (go_at_call 102; refine (col_is E4 (by omega) hcol).mono ?_; rintro e w4 ⟨rfl, bel⟩; have B4 := B3.go bel; have B5 := B4.set1 (nums .u8 zeroA).toArray (Nat.le_of_lt LT3) (by intro x hx; simp at hx; subst hx; exact Nat.ne_of_lt LT3); clear bel)
    | (refine wpList_store_row rfl 42 (.tmp 10) (.tmp 35) rfl w3.heap.size _ rfl rfl 42 (nums .u8 zeroA).toArray B4.2.1.1 (info42 zeroA_ok) (rfl) (numsA_one _) ?_)
    | (refine wpList_store_row rfl 55 (.tmp 2) (.tmp 43) rfl w.heap.size (pCs zeroA 0).toArray rfl rfl 55 (pCs zeroA 0).toArray B5.2.1.2.1 (info55 zeroA_ok _) rfl (pCs_one _ _) ?_))
  refine bodyPost_ret (v := .tuple #[vPf zeroP, .int .i64 20]) ?_ rfl ⟨by unfold PPR; rw [hres.out] <;> rfl, below_row B5.1 (Nat.le_refl _) _⟩
  exact results_cell_tmp rfl _ _ rfl (BoxP.run (p := zeroP) (setRow_heap _ _ _ _ _ _ B5.2.1.2.1) zeroA_ok).2.2 rfl
set_option maxRecDepth 100000 in
set_option maxHeartbeats 1600000 in
theorem pp_n {w : World} (E : Env w) {s : ByteArray} (hs : s.size < 4294967281) {L R : ByteArray} {g : Bool} (hL : L.size ≤ s.size) (hR : R.size ≤ s.size) (hcut : ∀ {w : World}, Env w → Calls Tryz.prog 123 #[.string s, .string ⟨#[47]⟩] w fun e w' => e = .returned (.tuple #[.string L, .string R, .bool g]) ∧ Below w.heap.size w w') (hres : parsePS s = (zeroP, 20)) {n : Int} (hd : decS R 3 = some n) (hq : okA (quadS L) = zeroA ∧ (quadS L).isSome = false) (hcol : okA (colS L) = zeroA ∧ (colS L).isSome = false) : Calls Tryz.prog 56 #[.string s] w fun e w' => PPR s e ∧ Below w.heap.size w w' := by
  have B0 := Bx.start1 w (oP zeroP)
  have E0 := (E.go B0.1).2
  replace hres := Lib.hid hres
  go_enter Tryz.func56, Tryz.ntmps56
  go_wp2_with (first
    | (go_at_call 123; refine (hcut E0).mono ?_; rintro e w1 ⟨rfl, bel⟩; have E1 := (E0.go bel).2; have B1 := B0.go bel; clear bel)
    | (go_at_call 124; refine (dec_is E1 (by omega) hd).mono ?_; rintro e w2 ⟨rfl, bel⟩; have E2 := (E1.go bel).2; have B2 := B1.go bel; clear bel)
    | (go_at_call 101; refine (quad_is E2 (by omega) hq).mono ?_; rintro e w3 ⟨rfl, bel⟩; have E3 := (E2.go bel).2; have LT3 := lt_of_obj (B2.go bel).2.1.1; have B3 := (B2.go bel).alloc (oA zeroA); have E4 := (E3.go ((Below.refl w3.heap.size w3).alloc (Nat.le_refl _) (oA zeroA))).2; clear bel)
    | (refine wpList_store_new rfl 42 (.tmp 10) (.tmp 28) rfl rfl rfl (info42 zeroA_ok) (by rw [sizeA zeroA_ok] <;> rfl) (numsA_one _) ?_)
    | (go_at_call 102; refine (col_is E4 (by omega) hcol).mono ?_; rintro e w4 ⟨rfl, bel⟩; have B4 := B3.go bel; have B5 := B4.set1 (nums .u8 zeroA).toArray (Nat.le_of_lt LT3) (by intro x hx; simp at hx; subst hx; exact Nat.ne_of_lt LT3); clear bel)
    | (refine wpList_store_row rfl 42 (.tmp 10) (.tmp 35) rfl w3.heap.size _ rfl rfl 42 (nums .u8 zeroA).toArray B4.2.1.1 (info42 zeroA_ok) (rfl) (numsA_one _) ?_)
    | (refine wpList_store_row rfl 55 (.tmp 2) (.tmp 43) rfl w.heap.size (pCs zeroA 0).toArray rfl rfl 55 (pCs zeroA 0).toArray B5.2.1.2.1 (info55 zeroA_ok _) rfl (pCs_one _ _) ?_))
  refine bodyPost_ret (v := .tuple #[vPf zeroP, .int .i64 20]) ?_ rfl ⟨by unfold PPR; rw [hres.out] <;> rfl, below_row B5.1 (Nat.le_refl _) _⟩
  exact results_cell_tmp rfl _ _ rfl (BoxP.run (p := zeroP) (setRow_heap _ _ _ _ _ _ B5.2.1.2.1) zeroA_ok).2.2 rfl
end Go.Proofs.YtnljjlaececnkaaGreatDoor
/-
  ParsePrefix, where there is a prefix. Condition: the variables hold what their initialisers laid; a text is no longer than memory has room for.
-/
namespace Go.Proofs.YtnljjlaececnkaaGreatDoor
open Go.RowKit
set_option linter.unusedVariables false
set_option linter.unusedSimpArgs false
theorem quiet_build2 {P : Program} {C : World → Prop} {o : Oper} {a : Act} {w : World} {t : TypeId} {i j : Nat} {x y : Operand} {vx vy : Value} (ho : o.op = .build t #[(i, x), (j, y)]) (hx : a.eval x = vx) (hy : a.eval y = vy) {cells : Array Value} (h : P.built t [(i, vx), (j, vy)] = some cells) : Oper.quietAt P o a C w (.agg cells) := by
  have hr := run_build w t #[(i, vx), (j, vy)] cells h
  unfold Oper.quietAt execOp
  simp only [ho, List.map_toArray, List.map_cons, List.map_nil, hx, hy, Sem.run_bind, hr, Sem.run_pure, Result.andThen_ok]
  exact ⟨rfl, rfl⟩
set_option maxRecDepth 100000 in
set_option maxHeartbeats 1600000 in
theorem pp_qy {w : World} (E : Env w) {s : ByteArray} (hs : s.size < 4294967281) {L R : ByteArray} {g : Bool} (hL : L.size ≤ s.size) (hR : R.size ≤ s.size) (hcut : ∀ {w : World}, Env w → Calls Tryz.prog 123 #[.string s, .string ⟨#[47]⟩] w fun e w' => e = .returned (.tuple #[.string L, .string R, .bool g]) ∧ Below w.heap.size w w') {n : Int} (hd : decS R 3 = some n) {a : List Int} (ok : isA a) (hq : okA (quadS L) = a ∧ (quadS L).isSome = true) (hpok : (⟨a, 96 + n⟩ : Pf).ok) (hres : parsePS s = (⟨a, 96 + n⟩, 0)) (hk : chk ⟨a, 96 + n⟩ = true) : Calls Tryz.prog 56 #[.string s] w fun e w' => PPR s e ∧ Below w.heap.size w w' := by
  have B0 := Bx.start1 w (oP zeroP)
  have E0 := (E.go B0.1).2
  replace hres := Lib.hid hres
  have hb := i64_of_wf hpok.2
  have hn := decS_rng hd
  have hwr : IntKind.i64.wrap (96 + n) = 96 + n := IntWalk.i64_in _ (by omega)
  go_enter Tryz.func56, Tryz.ntmps56
  go_wp2_with (first
    | (go_at_call 123; refine (hcut E0).mono ?_; rintro e w1 ⟨rfl, bel⟩; have E1 := (E0.go bel).2; have B1 := B0.go bel; clear bel)
    | (go_at_call 124; refine (dec_is E1 (by omega) hd).mono ?_; rintro e w2 ⟨rfl, bel⟩; have E2 := (E1.go bel).2; have B2 := B1.go bel; clear bel)
    | (go_at_call 101; refine (quad_is E2 (by omega) hq).mono ?_; rintro e w3 ⟨rfl, bel⟩; have E3 := (E2.go bel).2; have LT3 := lt_of_obj (B2.go bel).2.1.1; have B3 := (B2.go bel).alloc (oA a); have E4 := (E3.go ((Below.refl w3.heap.size w3).alloc (Nat.le_refl _) (oA a))).2; clear bel)
    | (refine wpList_store_new rfl 42 (.tmp 10) (.tmp 28) rfl rfl rfl (info42 ok) (by rw [sizeA ok] <;> rfl) (numsA_one _) ?_)
    | (refine wpList_quiet_take (C := Bx w w.heap.size [(w3.heap.size, oA a), (w.heap.size, oP zeroP)]) 7 5 (by rfl) B3 ?_))
  (try simp only [List.take_succ_cons, List.take_zero, List.drop_succ_cons, List.drop_zero])
  refine wpQuiet_hide ?_
  intro lq hlq
  refine wpQuiet_step_h hlq ?_
  clear hlq lq
  intro K lq hlq hK
  refine wanted_go (by rfl) ?_
  refine ⟨vA a, fun W hW => ?_, ?_⟩
  · have q := BoxA.run hW.2.1.1 ok
    exact quiet_load 42 _ rfl rfl q
  refine hK _ ?_
  clear hK K
  (try simp only [Act.put, List.setIfInBounds_toArray, List.set_cons_zero, List.set_cons_succ])
  refine wpQuiet_step_h hlq ?_
  clear hlq lq
  intro K lq hlq hK
  refine wanted_go (by rfl) ?_
  refine ⟨?_, fun W hW => ?_, ?_⟩
  rotate_left
  · have q := BoxA.run hW.2.1.1 ok
    go_simp
    with_reducible rfl
  refine hK _ ?_
  clear hK K
  (try simp only [Act.put, List.setIfInBounds_toArray, List.set_cons_zero, List.set_cons_succ])
  refine wpQuiet_step_h hlq ?_
  clear hlq lq
  intro K lq hlq hK
  refine wanted_go (by rfl) ?_
  refine ⟨?_, fun W hW => ?_, ?_⟩
  rotate_left
  · have q := BoxA.run hW.2.1.1 ok
    go_simp
    with_reducible rfl
  refine hK _ ?_
  clear hK K
  (try simp only [Act.put, List.setIfInBounds_toArray, List.set_cons_zero, List.set_cons_succ])
  refine wpQuiet_step_h hlq ?_
  clear hlq lq
  intro K lq hlq hK
  refine wanted_go (by rfl) ?_
  refine ⟨?_, fun W hW => ?_, ?_⟩
  rotate_left
  · have q := BoxA.run hW.2.1.1 ok
    go_simp
    with_reducible rfl
  refine hK _ ?_
  clear hK K
  (try simp only [Act.put, List.setIfInBounds_toArray, List.set_cons_zero, List.set_cons_succ])
  refine wpQuiet_step_h hlq ?_
  clear hlq lq
  intro K lq hlq hK
  refine wanted_go (by rfl) ?_
  refine ⟨.agg (pCs a (96 + n)).toArray, fun W hW => ?_, ?_⟩
  · have q := BoxA.run hW.2.1.1 ok
    exact quiet_build2 (x := .tmp 44) (y := .tmp 47) (vx := .agg (nums .u8 a).toArray) (vy := .int .i64 (96 + n)) rfl rfl rfl (built55 (a := a) (n := 96 + n) ok)
  refine hK _ ?_
  clear hK K
  (try simp only [Act.put, List.setIfInBounds_toArray, List.set_cons_zero, List.set_cons_succ])
  refine wpQuiet_nil_h hlq ?_
  clear hlq lq
  intro W5 B7
  have BP := B7.alloc (oP ⟨a, 96 + n⟩)
  go_wp2_with (first
    | (refine wpList_store_new rfl 55 (.tmp 12) (.tmp 48) rfl rfl rfl (info55 ok _) (by rw [pCs_size ok] <;> rfl) (pCs_one _ _) ?_)
    | (refine wpList_load_mid rfl 55 (.tmp 12) rfl W5.heap.size 0 rfl (pCs a (96 + n)) _ (row_load BP.2.1.1) Tryz.underlying55 rfl (info55 ok _) ?_)
    | (go_at_call 38; refine (check_yes hpok hk).mono ?_; clear hk; rintro e w6 ⟨rfl, bel⟩; have B6 := BP.go bel; clear bel)
    | (refine wpList_load_mid rfl 55 (.tmp 12) rfl (W5.heap.size) 0 rfl (pCs a (96 + n)) _ (row_load B6.2.1.1) Tryz.underlying55 rfl (info55 ok _) ?_)
    | (refine wpList_store_row rfl 55 (.tmp 2) (.tmp 55) rfl w.heap.size _ rfl rfl 55 (pCs zeroA 0).toArray B6.2.1.2.2.1 (info55 ok _) (by rw [pCs_size zeroA_ok, pCs_size ok]) (pCs_one _ _) ?_))
  refine bodyPost_ret (v := .tuple #[vPf ⟨a, 96 + n⟩, .int .i64 0]) ?_ rfl ⟨by unfold PPR; rw [hres.out] <;> rfl, below_row B6.1 (Nat.le_refl _) _⟩
  exact results_cell_tmp rfl _ _ rfl (BoxP.run (p := ⟨a, 96 + n⟩) (setRow_heap _ _ _ _ _ _ B6.2.1.2.2.1) ok).2.2 rfl
set_option maxRecDepth 100000 in
set_option maxHeartbeats 1600000 in
theorem pp_qn {w : World} (E : Env w) {s : ByteArray} (hs : s.size < 4294967281) {L R : ByteArray} {g : Bool} (hL : L.size ≤ s.size) (hR : R.size ≤ s.size) (hcut : ∀ {w : World}, Env w → Calls Tryz.prog 123 #[.string s, .string ⟨#[47]⟩] w fun e w' => e = .returned (.tuple #[.string L, .string R, .bool g]) ∧ Below w.heap.size w w') {n : Int} (hd : decS R 3 = some n) {a : List Int} (ok : isA a) (hq : okA (quadS L) = a ∧ (quadS L).isSome = true) (hpok : (⟨a, 96 + n⟩ : Pf).ok) (hres : parsePS s = (zeroP, 21)) (hk : chk ⟨a, 96 + n⟩ = false) : Calls Tryz.prog 56 #[.string s] w fun e w' => PPR s e ∧ Below w.heap.size w w' := by
  have B0 := Bx.start1 w (oP zeroP)
  have E0 := (E.go B0.1).2
  replace hres := Lib.hid hres
  have hb := i64_of_wf hpok.2
  have hn := decS_rng hd
  have hwr : IntKind.i64.wrap (96 + n) = 96 + n := IntWalk.i64_in _ (by omega)
  go_enter Tryz.func56, Tryz.ntmps56
  go_wp2_with (first
    | (go_at_call 123; refine (hcut E0).mono ?_; rintro e w1 ⟨rfl, bel⟩; have E1 := (E0.go bel).2; have B1 := B0.go bel; clear bel)
    | (go_at_call 124; refine (dec_is E1 (by omega) hd).mono ?_; rintro e w2 ⟨rfl, bel⟩; have E2 := (E1.go bel).2; have B2 := B1.go bel; clear bel)
    | (go_at_call 101; refine (quad_is E2 (by omega) hq).mono ?_; rintro e w3 ⟨rfl, bel⟩; have E3 := (E2.go bel).2; have LT3 := lt_of_obj (B2.go bel).2.1.1; have B3 := (B2.go bel).alloc (oA a); have E4 := (E3.go ((Below.refl w3.heap.size w3).alloc (Nat.le_refl _) (oA a))).2; clear bel)
    | (refine wpList_store_new rfl 42 (.tmp 10) (.tmp 28) rfl rfl rfl (info42 ok) (by rw [sizeA ok] <;> rfl) (numsA_one _) ?_)
    | (refine wpList_quiet_take (C := Bx w w.heap.size [(w3.heap.size, oA a), (w.heap.size, oP zeroP)]) 7 5 (by rfl) B3 ?_))
  (try simp only [List.take_succ_cons, List.take_zero, List.drop_succ_cons, List.drop_zero])
  refine wpQuiet_hide ?_
  intro lq hlq
  refine wpQuiet_step_h hlq ?_
  clear hlq lq
  intro K lq hlq hK
  refine wanted_go (by rfl) ?_
  refine ⟨vA a, fun W hW => ?_, ?_⟩
  · have q := BoxA.run hW.2.1.1 ok
    exact quiet_load 42 _ rfl rfl q
  refine hK _ ?_
  clear hK K
  (try simp only [Act.put, List.setIfInBounds_toArray, List.set_cons_zero, List.set_cons_succ])
  refine wpQuiet_step_h hlq ?_
  clear hlq lq
  intro K lq hlq hK
  refine wanted_go (by rfl) ?_
  refine ⟨?_, fun W hW => ?_, ?_⟩
  rotate_left
  · have q := BoxA.run hW.2.1.1 ok
    go_simp
    with_reducible rfl
  refine hK _ ?_
  clear hK K
  (try simp only [Act.put, List.setIfInBounds_toArray, List.set_cons_zero, List.set_cons_succ])
  refine wpQuiet_step_h hlq ?_
  clear hlq lq
  intro K lq hlq hK
  refine wanted_go (by rfl) ?_
  refine ⟨?_, fun W hW => ?_, ?_⟩
  rotate_left
  · have q := BoxA.run hW.2.1.1 ok
    go_simp
    with_reducible rfl
  refine hK _ ?_
  clear hK K
  (try simp only [Act.put, List.setIfInBounds_toArray, List.set_cons_zero, List.set_cons_succ])
  refine wpQuiet_step_h hlq ?_
  clear hlq lq
  intro K lq hlq hK
  refine wanted_go (by rfl) ?_
  refine ⟨?_, fun W hW => ?_, ?_⟩
  rotate_left
  · have q := BoxA.run hW.2.1.1 ok
    go_simp
    with_reducible rfl
  refine hK _ ?_
  clear hK K
  (try simp only [Act.put, List.setIfInBounds_toArray, List.set_cons_zero, List.set_cons_succ])
  refine wpQuiet_step_h hlq ?_
  clear hlq lq
  intro K lq hlq hK
  refine wanted_go (by rfl) ?_
  refine ⟨.agg (pCs a (96 + n)).toArray, fun W hW => ?_, ?_⟩
  · have q := BoxA.run hW.2.1.1 ok
    exact quiet_build2 (x := .tmp 44) (y := .tmp 47) (vx := .agg (nums .u8 a).toArray) (vy := .int .i64 (96 + n)) rfl rfl rfl (built55 (a := a) (n := 96 + n) ok)
  refine hK _ ?_
  clear hK K
  (try simp only [Act.put, List.setIfInBounds_toArray, List.set_cons_zero, List.set_cons_succ])
  refine wpQuiet_nil_h hlq ?_
  clear hlq lq
  intro W5 B7
  have BP := B7.alloc (oP ⟨a, 96 + n⟩)
  go_wp2_with (first
    | (refine wpList_store_new rfl 55 (.tmp 12) (.tmp 48) rfl rfl rfl (info55 ok _) (by rw [pCs_size ok] <;> rfl) (pCs_one _ _) ?_)
    | (refine wpList_load_mid rfl 55 (.tmp 12) rfl W5.heap.size 0 rfl (pCs a (96 + n)) _ (row_load BP.2.1.1) Tryz.underlying55 rfl (info55 ok _) ?_)
    | (go_at_call 38; refine (check_nope hpok hk).mono ?_; clear hk; rintro e w6 ⟨rfl, bel⟩; have B6 := BP.go bel; clear bel)
    | (refine wpList_store_row rfl 55 (.tmp 2) (.tmp 53) rfl w.heap.size (pCs zeroA 0).toArray rfl rfl 55 (pCs zeroA 0).toArray B6.2.1.2.2.1 (info55 zeroA_ok _) rfl (pCs_one _ _) ?_))
  refine bodyPost_ret (v := .tuple #[vPf zeroP, .int .i64 21]) ?_ rfl ⟨by unfold PPR; rw [hres.out] <;> rfl, below_row B6.1 (Nat.le_refl _) _⟩
  exact results_cell_tmp rfl _ _ rfl (BoxP.run (p := zeroP) (setRow_heap _ _ _ _ _ _ B6.2.1.2.2.1) zeroA_ok).2.2 rfl
set_option maxRecDepth 100000 in
set_option maxHeartbeats 1600000 in
theorem pp_cy {w : World} (E : Env w) {s : ByteArray} (hs : s.size < 4294967281) {L R : ByteArray} {g : Bool} (hL : L.size ≤ s.size) (hR : R.size ≤ s.size) (hcut : ∀ {w : World}, Env w → Calls Tryz.prog 123 #[.string s, .string ⟨#[47]⟩] w fun e w' => e = .returned (.tuple #[.string L, .string R, .bool g]) ∧ Below w.heap.size w w') {n : Int} (hd : decS R 3 = some n) (hq : okA (quadS L) = zeroA ∧ (quadS L).isSome = false) {a : List Int} (ok : isA a) (hcol : okA (colS L) = a ∧ (colS L).isSome = true) (hpok : (⟨a, n⟩ : Pf).ok) (hres : parsePS s = (⟨a, n⟩, 0)) (hk : chk ⟨a, n⟩ = true) : Calls Tryz.prog 56 #[.string s] w fun e w' => PPR s e ∧ Below w.heap.size w w' := by
  have B0 := Bx.start1 w (oP zeroP)
  have E0 := (E.go B0.1).2
  replace hres := Lib.hid hres
  have hb := i64_of_wf hpok.2
  have hn := decS_rng hd
  have hwr : IntKind.i64.wrap (n) = n := IntWalk.i64_in _ (by omega)
  go_enter Tryz.func56, Tryz.ntmps56
  go_wp2_with (first
    | (go_at_call 123; refine (hcut E0).mono ?_; rintro e w1 ⟨rfl, bel⟩; have E1 := (E0.go bel).2; have B1 := B0.go bel; clear bel)
    | (go_at_call 124; refine (dec_is E1 (by omega) hd).mono ?_; rintro e w2 ⟨rfl, bel⟩; have E2 := (E1.go bel).2; have B2 := B1.go bel; clear bel)
    | (go_at_call 101; refine (quad_is E2 (by omega) hq).mono ?_; rintro e w3 ⟨rfl, bel⟩; have E3 := (E2.go bel).2; have LT3 := lt_of_obj (B2.go bel).2.1.1; have B3 := (B2.go bel).alloc (oA zeroA); have E4 := (E3.go ((Below.refl w3.heap.size w3).alloc (Nat.le_refl _) (oA zeroA))).2; clear bel)
    | (refine wpList_store_new rfl 42 (.tmp 10) (.tmp 28) rfl rfl rfl (info42 zeroA_ok) (by rw [sizeA zeroA_ok] <;> rfl) (numsA_one _) ?_)
    | (go_at_call 102; refine (col_is E4 (by omega) hcol).mono ?_; rintro e w4 ⟨rfl, bel⟩; have B4 := B3.go bel; have B5 := B4.set1 (nums .u8 a).toArray (Nat.le_of_lt LT3) (by intro x hx; simp at hx; subst hx; exact Nat.ne_of_lt LT3); clear bel)
    | (refine wpList_store_row rfl 42 (.tmp 10) (.tmp 35) rfl w3.heap.size _ rfl rfl 42 (nums .u8 zeroA).toArray B4.2.1.1 (info42 ok) (by rw [sizeA zeroA_ok, sizeA ok]) (numsA_one _) ?_)
    | (refine wpList_quiet_take (C := Bx w w.heap.size [(w3.heap.size, oA a), (w.heap.size, oP zeroP)]) 7 5 (by rfl) B5 ?_))
  (try simp only [List.take_succ_cons, List.take_zero, List.drop_succ_cons, List.drop_zero])
  refine wpQuiet_hide ?_
  intro lq hlq
  refine wpQuiet_step_h hlq ?_
  clear hlq lq
  intro K lq hlq hK
  refine wanted_go (by rfl) ?_
  refine ⟨vA a, fun W hW => ?_, ?_⟩
  · have q := BoxA.run hW.2.1.1 ok
    exact quiet_load 42 _ rfl rfl q
  refine hK _ ?_
  clear hK K
  (try simp only [Act.put, List.setIfInBounds_toArray, List.set_cons_zero, List.set_cons_succ])
  refine wpQuiet_step_h hlq ?_
  clear hlq lq
  intro K lq hlq hK
  refine wanted_go (by rfl) ?_
  refine ⟨?_, fun W hW => ?_, ?_⟩
  rotate_left
  · have q := BoxA.run hW.2.1.1 ok
    go_simp
    with_reducible rfl
  refine hK _ ?_
  clear hK K
  (try simp only [Act.put, List.setIfInBounds_toArray, List.set_cons_zero, List.set_cons_succ])
  refine wpQuiet_step_h hlq ?_
  clear hlq lq
  intro K lq hlq hK
  refine wanted_go (by rfl) ?_
  refine ⟨?_, fun W hW => ?_, ?_⟩
  rotate_left
  · have q := BoxA.run hW.2.1.1 ok
    go_simp
    with_reducible rfl
  refine hK _ ?_
  clear hK K
  (try simp only [Act.put, List.setIfInBounds_toArray, List.set_cons_zero, List.set_cons_succ])
  refine wpQuiet_step_h hlq ?_
  clear hlq lq
  intro K lq hlq hK
  refine wanted_go (by rfl) ?_
  refine ⟨?_, fun W hW => ?_, ?_⟩
  rotate_left
  · have q := BoxA.run hW.2.1.1 ok
    go_simp
    with_reducible rfl
  refine hK _ ?_
  clear hK K
  (try simp only [Act.put, List.setIfInBounds_toArray, List.set_cons_zero, List.set_cons_succ])
  refine wpQuiet_step_h hlq ?_
  clear hlq lq
  intro K lq hlq hK
  refine wanted_go (by rfl) ?_
  refine ⟨.agg (pCs a (n)).toArray, fun W hW => ?_, ?_⟩
  · have q := BoxA.run hW.2.1.1 ok
    exact quiet_build2 (x := .tmp 44) (y := .tmp 47) (vx := .agg (nums .u8 a).toArray) (vy := .int .i64 (n)) rfl rfl rfl (built55 (a := a) (n := n) ok)
  refine hK _ ?_
  clear hK K
  (try simp only [Act.put, List.setIfInBounds_toArray, List.set_cons_zero, List.set_cons_succ])
  refine wpQuiet_nil_h hlq ?_
  clear hlq lq
  intro W5 B7
  have BP := B7.alloc (oP ⟨a, n⟩)
  go_wp2_with (first
    | (refine wpList_store_new rfl 55 (.tmp 12) (.tmp 48) rfl rfl rfl (info55 ok _) (by rw [pCs_size ok] <;> rfl) (pCs_one _ _) ?_)
    | (refine wpList_load_mid rfl 55 (.tmp 12) rfl W5.heap.size 0 rfl (pCs a (n)) _ (row_load BP.2.1.1) Tryz.underlying55 rfl (info55 ok _) ?_)
    | (go_at_call 38; refine (check_yes hpok hk).mono ?_; clear hk; rintro e w6 ⟨rfl, bel⟩; have B6 := BP.go bel; clear bel)
    | (refine wpList_load_mid rfl 55 (.tmp 12) rfl (W5.heap.size) 0 rfl (pCs a (n)) _ (row_load B6.2.1.1) Tryz.underlying55 rfl (info55 ok _) ?_)
    | (refine wpList_store_row rfl 55 (.tmp 2) (.tmp 55) rfl w.heap.size _ rfl rfl 55 (pCs zeroA 0).toArray B6.2.1.2.2.1 (info55 ok _) (by rw [pCs_size zeroA_ok, pCs_size ok]) (pCs_one _ _) ?_))
  refine bodyPost_ret (v := .tuple #[vPf ⟨a, n⟩, .int .i64 0]) ?_ rfl ⟨by unfold PPR; rw [hres.out] <;> rfl, below_row B6.1 (Nat.le_refl _) _⟩
  exact results_cell_tmp rfl _ _ rfl (BoxP.run (p := ⟨a, n⟩) (setRow_heap _ _ _ _ _ _ B6.2.1.2.2.1) ok).2.2 rfl
set_option maxRecDepth 100000 in
set_option maxHeartbeats 1600000 in
theorem pp_cn {w : World} (E : Env w) {s : ByteArray} (hs : s.size < 4294967281) {L R : ByteArray} {g : Bool} (hL : L.size ≤ s.size) (hR : R.size ≤ s.size) (hcut : ∀ {w : World}, Env w → Calls Tryz.prog 123 #[.string s, .string ⟨#[47]⟩] w fun e w' => e = .returned (.tuple #[.string L, .string R, .bool g]) ∧ Below w.heap.size w w') {n : Int} (hd : decS R 3 = some n) (hq : okA (quadS L) = zeroA ∧ (quadS L).isSome = false) {a : List Int} (ok : isA a) (hcol : okA (colS L) = a ∧ (colS L).isSome = true) (hpok : (⟨a, n⟩ : Pf).ok) (hres : parsePS s = (zeroP, 21)) (hk : chk ⟨a, n⟩ = false) : Calls Tryz.prog 56 #[.string s] w fun e w' => PPR s e ∧ Below w.heap.size w w' := by
  have B0 := Bx.start1 w (oP zeroP)
  have E0 := (E.go B0.1).2
  replace hres := Lib.hid hres
  have hb := i64_of_wf hpok.2
  have hn := decS_rng hd
  have hwr : IntKind.i64.wrap (n) = n := IntWalk.i64_in _ (by omega)
  go_enter Tryz.func56, Tryz.ntmps56
  go_wp2_with (first
    | (go_at_call 123; refine (hcut E0).mono ?_; rintro e w1 ⟨rfl, bel⟩; have E1 := (E0.go bel).2; have B1 := B0.go bel; clear bel)
    | (go_at_call 124; refine (dec_is E1 (by omega) hd).mono ?_; rintro e w2 ⟨rfl, bel⟩; have E2 := (E1.go bel).2; have B2 := B1.go bel; clear bel)
    | (go_at_call 101; refine (quad_is E2 (by omega) hq).mono ?_; rintro e w3 ⟨rfl, bel⟩; have E3 := (E2.go bel).2; have LT3 := lt_of_obj (B2.go bel).2.1.1; have B3 := (B2.go bel).alloc (oA zeroA); have E4 := (E3.go ((Below.refl w3.heap.size w3).alloc (Nat.le_refl _) (oA zeroA))).2; clear bel)
    | (refine wpList_store_new rfl 42 (.tmp 10) (.tmp 28) rfl rfl rfl (info42 zeroA_ok) (by rw [sizeA zeroA_ok] <;> rfl) (numsA_one _) ?_)
    | (go_at_call 102; refine (col_is E4 (by omega) hcol).mono ?_; rintro e w4 ⟨rfl, bel⟩; have B4 := B3.go bel; have B5 := B4.set1 (nums .u8 a).toArray (Nat.le_of_lt LT3) (by intro x hx; simp at hx; subst hx; exact Nat.ne_of_lt LT3); clear bel)
    | (refine wpList_store_row rfl 42 (.tmp 10) (.tmp 35) rfl w3.heap.size _ rfl rfl 42 (nums .u8 zeroA).toArray B4.2.1.1 (info42 ok) (by rw [sizeA zeroA_ok, sizeA ok]) (numsA_one _) ?_)
    | (refine wpList_quiet_take (C := Bx w w.heap.size [(w3.heap.size, oA a), (w.heap.size, oP zeroP)]) 7 5 (by rfl) B5 ?_))
  (try simp only [List.take_succ_cons, List.take_zero, List.drop_succ_cons, List.drop_zero])
  refine wpQuiet_hide ?_
  intro lq hlq
  refine wpQuiet_step_h hlq ?_
  clear hlq lq
  intro K lq hlq hK
  refine wanted_go (by rfl) ?_
  refine ⟨vA a, fun W hW => ?_, ?_⟩
  · have q := BoxA.run hW.2.1.1 ok
    exact quiet_load 42 _ rfl rfl q
  refine hK _ ?_
  clear hK K
  (try simp only [Act.put, List.setIfInBounds_toArray, List.set_cons_zero, List.set_cons_succ])
  refine wpQuiet_step_h hlq ?_
  clear hlq lq
  intro K lq hlq hK
  refine wanted_go (by rfl) ?_
  refine ⟨?_, fun W hW => ?_, ?_⟩
  rotate_left
  · have q := BoxA.run hW.2.1.1 ok
    go_simp
    with_reducible rfl
  refine hK _ ?_
  clear hK K
  (try simp only [Act.put, List.setIfInBounds_toArray, List.set_cons_zero, List.set_cons_succ])
  refine wpQuiet_step_h hlq ?_
  clear hlq lq
  intro K lq hlq hK
  refine wanted_go (by rfl) ?_
  refine ⟨?_, fun W hW => ?_, ?_⟩
  rotate_left
  · have q := BoxA.run hW.2.1.1 ok
    go_simp
    with_reducible rfl
  refine hK _ ?_
  clear hK K
  (try simp only [Act.put, List.setIfInBounds_toArray, List.set_cons_zero, List.set_cons_succ])
  refine wpQuiet_step_h hlq ?_
  clear hlq lq
  intro K lq hlq hK
  refine wanted_go (by rfl) ?_
  refine ⟨?_, fun W hW => ?_, ?_⟩
  rotate_left
  · have q := BoxA.run hW.2.1.1 ok
    go_simp
    with_reducible rfl
  refine hK _ ?_
  clear hK K
  (try simp only [Act.put, List.setIfInBounds_toArray, List.set_cons_zero, List.set_cons_succ])
  refine wpQuiet_step_h hlq ?_
  clear hlq lq
  intro K lq hlq hK
  refine wanted_go (by rfl) ?_
  refine ⟨.agg (pCs a (n)).toArray, fun W hW => ?_, ?_⟩
  · have q := BoxA.run hW.2.1.1 ok
    exact quiet_build2 (x := .tmp 44) (y := .tmp 47) (vx := .agg (nums .u8 a).toArray) (vy := .int .i64 (n)) rfl rfl rfl (built55 (a := a) (n := n) ok)
  refine hK _ ?_
  clear hK K
  (try simp only [Act.put, List.setIfInBounds_toArray, List.set_cons_zero, List.set_cons_succ])
  refine wpQuiet_nil_h hlq ?_
  clear hlq lq
  intro W5 B7
  have BP := B7.alloc (oP ⟨a, n⟩)
  go_wp2_with (first
    | (refine wpList_store_new rfl 55 (.tmp 12) (.tmp 48) rfl rfl rfl (info55 ok _) (by rw [pCs_size ok] <;> rfl) (pCs_one _ _) ?_)
    | (refine wpList_load_mid rfl 55 (.tmp 12) rfl W5.heap.size 0 rfl (pCs a (n)) _ (row_load BP.2.1.1) Tryz.underlying55 rfl (info55 ok _) ?_)
    | (go_at_call 38; refine (check_nope hpok hk).mono ?_; clear hk; rintro e w6 ⟨rfl, bel⟩; have B6 := BP.go bel; clear bel)
    | (refine wpList_store_row rfl 55 (.tmp 2) (.tmp 53) rfl w.heap.size (pCs zeroA 0).toArray rfl rfl 55 (pCs zeroA 0).toArray B6.2.1.2.2.1 (info55 zeroA_ok _) rfl (pCs_one _ _) ?_))
  refine bodyPost_ret (v := .tuple #[vPf zeroP, .int .i64 21]) ?_ rfl ⟨by unfold PPR; rw [hres.out] <;> rfl, below_row B6.1 (Nat.le_refl _) _⟩
  exact results_cell_tmp rfl _ _ rfl (BoxP.run (p := zeroP) (setRow_heap _ _ _ _ _ _ B6.2.1.2.2.1) zeroA_ok).2.2 rfl
theorem raw_none {s : ByteArray} {l r : List UInt8} {g : Bool} (h : Lib.cut s.data.toList slashB.data.toList = (l, r, g)) (hd : decS ⟨r.toArray⟩ 3 = none) : parsePS s = (zeroP, 20) := by
  unfold parsePS rawS
  rw [h]
  simp only [hd]
theorem raw_no {s : ByteArray} {l r : List UInt8} {g : Bool} {n : Int} (h : Lib.cut s.data.toList slashB.data.toList = (l, r, g)) (hd : decS ⟨r.toArray⟩ 3 = some n) (hq : quadS ⟨l.toArray⟩ = none) (hc : colS ⟨l.toArray⟩ = none) : parsePS s = (zeroP, 20) := by
  unfold parsePS rawS
  rw [h]
  simp only [hd, hq, hc]
theorem raw_q {s : ByteArray} {l r : List UInt8} {g : Bool} {n : Int} {a : List Int} (h : Lib.cut s.data.toList slashB.data.toList = (l, r, g)) (hd : decS ⟨r.toArray⟩ 3 = some n) (hq : quadS ⟨l.toArray⟩ = some a) : parsePS s = if chk ⟨a, 96 + n⟩ then (⟨a, 96 + n⟩, 0) else (zeroP, 21) := by
  unfold parsePS rawS
  rw [h]
  simp only [hd, hq]
theorem raw_c {s : ByteArray} {l r : List UInt8} {g : Bool} {n : Int} {a : List Int} (h : Lib.cut s.data.toList slashB.data.toList = (l, r, g)) (hd : decS ⟨r.toArray⟩ 3 = some n) (hq : quadS ⟨l.toArray⟩ = none) (hc : colS ⟨l.toArray⟩ = some a) : parsePS s = if chk ⟨a, n⟩ then (⟨a, n⟩, 0) else (zeroP, 21) := by
  unfold parsePS rawS
  rw [h]
  simp only [hd, hq, hc]
theorem cut_lens' {s sep : ByteArray} {l r : List UInt8} {gap : Bool} (h : Lib.cut s.data.toList sep.data.toList = (l, r, gap)) : l.length ≤ s.size ∧ r.length ≤ s.size := by
  have hl : s.data.toList.length = s.size := Array.length_toList
  unfold Lib.cut at h
  split at h
  · cases h
    exact ⟨by rw [List.length_take]; omega, by rw [List.length_drop]; omega⟩
  · cases h
    exact ⟨by omega, Nat.zero_le _⟩
/-- ParsePrefix. -/
theorem pp_any {w : World} (E : Env w) {s : ByteArray} (hs : s.size < 4294967281) : Calls Tryz.prog 56 #[.string s] w fun e w' => PPR s e ∧ Below w.heap.size w w' := by
  obtain ⟨l, r, g, hcut⟩ : ∃ l r g, Lib.cut s.data.toList slashB.data.toList = (l, r, g) := ⟨_, _, _, rfl⟩
  obtain ⟨hl, hr⟩ := cut_lens' hcut
  have hL : (⟨l.toArray⟩ : ByteArray).size ≤ s.size := by show l.toArray.size ≤ _; simpa using hl
  have hR : (⟨r.toArray⟩ : ByteArray).size ≤ s.size := by show r.toArray.size ≤ _; simpa using hr
  have hc := fun {w : World} (E : Env w) => cut_any (sep := slashB) E hs hcut
  cases hd : decS ⟨r.toArray⟩ 3 with
  | none =>
    have hres := raw_none hcut hd
    cases hq : quadS ⟨l.toArray⟩ with
    | some a => exact pp_dq E hs hL hR hc hres hd (quadS_ok hq) (by rw [hq]; exact ⟨rfl, rfl⟩)
    | none =>
      cases hco : colS ⟨l.toArray⟩ with
      | some a => exact pp_dc E hs hL hR hc hres hd (by rw [hq]; exact ⟨rfl, rfl⟩) (colS_ok hco) (by rw [hco]; exact ⟨rfl, rfl⟩)
      | none => exact pp_dn E hs hL hR hc hres hd (by rw [hq]; exact ⟨rfl, rfl⟩) (by rw [hco]; exact ⟨rfl, rfl⟩)
  | some n =>
    obtain ⟨n0, n1⟩ := decS_rng hd
    cases hq : quadS ⟨l.toArray⟩ with
    | some a =>
      have hres := raw_q hcut hd hq
      have hp : (⟨a, 96 + n⟩ : Pf).ok := ⟨quadS_ok hq, wf_i64 (x := 96 + n) (by omega)⟩
      cases hk : chk ⟨a, 96 + n⟩ with
      | true => rw [hk] at hres; exact pp_qy E hs hL hR hc hd (quadS_ok hq) (by rw [hq]; exact ⟨rfl, rfl⟩) hp hres hk
      | false => rw [hk] at hres; exact pp_qn E hs hL hR hc hd (quadS_ok hq) (by rw [hq]; exact ⟨rfl, rfl⟩) hp hres hk
    | none =>
      cases hco : colS ⟨l.toArray⟩ with
      | none => exact pp_n E hs hL hR hc (raw_no hcut hd hq hco) hd (by rw [hq]; exact ⟨rfl, rfl⟩) (by rw [hco]; exact ⟨rfl, rfl⟩)
      | some a =>
        have hres := raw_c hcut hd hq hco
        have hp : (⟨a, n⟩ : Pf).ok := ⟨colS_ok hco, wf_i64 (x := n) (by omega)⟩
        cases hk : chk ⟨a, n⟩ with
        | true => rw [hk] at hres; exact pp_cy E hs hL hR hc hd (by rw [hq]; exact ⟨rfl, rfl⟩) (colS_ok hco) (by rw [hco]; exact ⟨rfl, rfl⟩) hp hres hk
        | false => rw [hk] at hres; exact pp_cn E hs hL hR hc hd (by rw [hq]; exact ⟨rfl, rfl⟩) (colS_ok hco) (by rw [hco]; exact ⟨rfl, rfl⟩) hp hres hk
end Go.Proofs.YtnljjlaececnkaaGreatDoor
/-
  Addresses and prefixes that are printed are read again: plain laws. Condition: an address is sixteen bytes.
-/
namespace Go.Proofs.YtnljjlaececnkaaGreatDoor
open Go.RowKit
set_option linter.unusedVariables false
set_option linter.unusedSimpArgs false
/-- An address of IPv4 as four numbers. -/
def dottedS (a : List Int) : List UInt8 := Lib.join ((a.drop 12).map Lib.itoa) [46]
/-- A prefix's text. -/
def pfxS (p : Pf) : List UInt8 := if chk p then (if pfam p = 4 then dottedS p.a ++ 47 :: Lib.itoa (p.n - 96) else groupedS p.a ++ 47 :: Lib.itoa p.n) else []
theorem last4 {a : List Int} (ha : isA a) : ∃ x y z t, a.drop 12 = [x, y, z, t] ∧ (0 ≤ x ∧ x < 256) ∧ (0 ≤ y ∧ y < 256) ∧ (0 ≤ z ∧ z < 256) ∧ (0 ≤ t ∧ t < 256) := by
  have hl : (a.drop 12).length = 4 := by rw [List.length_drop, ha.1]
  have hb : ∀ x ∈ a.drop 12, 0 ≤ x ∧ x < 256 := fun x hx => ha.2 x (List.mem_of_mem_drop hx)
  rcases h : a.drop 12 with _ | ⟨x, _ | ⟨y, _ | ⟨z, _ | ⟨t, _ | ⟨u, r⟩⟩⟩⟩⟩ <;> rw [h] at hl hb <;> simp at hl
  exact ⟨x, y, z, t, rfl, hb x (by simp), hb y (by simp), hb z (by simp), hb t (by simp)⟩
theorem dotted_four {x y z t : Int} : Lib.join ([x, y, z, t].map Lib.itoa) [46] = Lib.itoa x ++ 46 :: (Lib.itoa y ++ 46 :: (Lib.itoa z ++ 46 :: Lib.itoa t)) := by
  simp [Lib.join_cons, Lib.joinTail]
theorem tail_cons (u : Nat) (l : List Nat) : Lib.joinTail [58] ((u :: l).map hexT) = 58 :: (hexT u ++ Lib.joinTail [58] (l.map hexT)) := by simp [Lib.joinTail]
theorem joinS_cons (u : Nat) (l : List Nat) : joinS (u :: l) = hexT u ++ Lib.joinTail [58] (l.map hexT) := by
  unfold joinS; rw [List.map_cons, Lib.join_cons]
theorem joinS_nil : joinS [] = [] := rfl
theorem zc_all : ∀ (l : List Nat) (j : Nat), j < zc l → l[j]? = some 0
  | [], j, h => by simp [zc] at h
  | x :: l, j, h => by
    unfold zc at h
    split at h
    · rename_i hx
      cases j with
      | zero => simp [hx]
      | succ j => rw [List.getElem?_cons_succ]; exact zc_all l j (by omega)
    · omega
theorem run_zero (l : List Nat) : ∀ k j, (runAt l k).1 ≤ j → j < (runAt l k).2 → l[j]? = some 0
  | 0, j, h1, h2 => by simp [runAt] at h2
  | k + 1, j, h1, h2 => by
    unfold runAt runStep at h1 h2
    split at h1
    · rename_i hc
      rw [if_pos hc] at h2
      simp only at h1 h2
      have := zc_all (l.drop k) (j - k) (by omega)
      rw [List.getElem?_drop] at this
      rwa [show k + (j - k) = j by omega] at this
    · rename_i hc
      rw [if_neg hc] at h2
      exact run_zero l k j h1 h2
theorem runAt_two (l : List Nat) : ∀ k, (runAt l k).2 = (runAt l k).1 ∨ (runAt l k).1 + 2 ≤ (runAt l k).2
  | 0 => .inl rfl
  | k + 1 => by
    unfold runAt runStep
    split
    · right; simp only; omega
    · exact runAt_two l k
theorem pfam4 {p : Pf} (h : pfam p = 4) : 96 ≤ p.n ∧ fam p.a = 4 := by
  unfold pfam at h
  split at h
  · omega
  · exact ⟨by omega, h⟩
theorem chk_rng {p : Pf} (h : chk p = true) : 0 ≤ p.n ∧ p.n ≤ 128 := ⟨((chk_iff p).1 h).1, ((chk_iff p).1 h).2.1⟩
theorem pfx_yes {p : Pf} (h : chk p = true) : pfxS p = if pfam p = 4 then dottedS p.a ++ 47 :: Lib.itoa (p.n - 96) else groupedS p.a ++ 47 :: Lib.itoa p.n := by unfold pfxS; rw [if_pos h]
theorem pfx_no {p : Pf} (h : chk p = false) : pfxS p = [] := by unfold pfxS; rw [h]; rfl
end Go.Proofs.YtnljjlaececnkaaGreatDoor
/-
  Comparing addresses, prefixes, pairs. Condition: an address is sixteen bytes, a length a machine's number.
-/
namespace Go.Proofs.YtnljjlaececnkaaGreatDoor
open Go.RowKit
set_option linter.unusedVariables false
set_option linter.unusedSimpArgs false
theorem exec_load {P : Program} {o : Oper} {a : Act} {w : World} {v : Value} (ty : TypeId) (x : Operand) (ho : o.op = .load ty x) {p : Addr} (hx : a.eval x = .pointer (some p)) (h : (loadVar ty p).run P w = .ok v w) : (execOp a.eval o).run P w = .ok (.value v) w := by
  unfold execOp
  simp only [ho, hx, Instr.loadAt, Instr.sureAddr, Sem.run_bind, Sem.run_pure, Result.andThen_ok, h]
end Go.Proofs.YtnljjlaececnkaaGreatDoor
/-
  Print of an address of sixteen bytes that is no mapped one. Condition: the variables hold what their initialisers laid; an address is sixteen bytes.
-/
namespace Go.Proofs.YtnljjlaececnkaaGreatDoor
open Go.RowKit
set_option linter.unusedVariables false
set_option linter.unusedSimpArgs false
end Go.Proofs.YtnljjlaececnkaaGreatDoor
/-
  ParsePair of a text with no space that is right. Condition: the variables hold what their initialisers laid.
-/
namespace Go.Proofs.YtnljjlaececnkaaGreatDoor
open Go.RowKit
set_option linter.unusedVariables false
set_option linter.unusedSimpArgs false
theorem exec_build2 {P : Program} {o : Oper} {a : Act} {w : World} {t : TypeId} {i j : Nat} {x y : Operand} {vx vy : Value} (ho : o.op = .build t #[(i, x), (j, y)]) (hx : a.eval x = vx) (hy : a.eval y = vy) {cells : Array Value} (h : P.built t [(i, vx), (j, vy)] = some cells) : (execOp a.eval o).run P w = .ok (.value (.agg cells)) w := by
  have hr := run_build w t #[(i, vx), (j, vy)] cells h
  unfold execOp
  simp only [ho, List.map_toArray, List.map_cons, List.map_nil, hx, hy, Sem.run_bind, hr, Sem.run_pure, Result.andThen_ok]
theorem AllB.lt {W : World} : ∀ {l : List (Nat × Obj)}, AllB W l → ∀ x ∈ l, x.1 < W.heap.size
  | [], _, x, h => by simp at h
  | y :: l, ⟨h, r⟩, x, hx => by
    rcases List.mem_cons.1 hx with rfl | hx
    · exact lt_of_obj h
    · exact AllB.lt r x hx
theorem Bx.ne {w W : World} {N : Nat} {l : List (Nat × Obj)} (h : Bx w N l W) : ∀ x ∈ l, x.1 ≠ W.heap.size := fun x hx => Nat.ne_of_lt (AllB.lt h.2.1 x hx)
theorem Bx.alloc' {w W : World} {N g : Nat} {l : List (Nat × Obj)} (h : Bx w N l W) (o : Obj) (hg : W.heap.size = g) : Bx w N ((g, o) :: l) (W.alloc o) ∧ (∀ x ∈ l, x.1 ≠ g) ∧ N ≤ g := by
  subst hg; exact ⟨h.alloc o, h.ne, h.2.2⟩
def zeroPr : Pr := ⟨zeroP, zeroP⟩
theorem any_ok (f : Int) : (anyP f).ok := by
  unfold anyP; split
  · exact ⟨mapA_ok, rfl⟩
  · exact zeroP_ok
theorem info57 {p : Pr} (hp : p.fit) : (Tryz.prog.info? 57).map (·.size) = some (pCs p.d.a p.d.n ++ pCs p.s.a p.s.n).toArray.size := by
  rw [size57]; simp [pCs_len hp.1.1, pCs_len hp.2.1]
theorem pp_one (p : Pr) : (pCs p.d.a p.d.n ++ pCs p.s.a p.s.n).toArray.all (·.oneCell') = true := by
  have h1 := pCs_one p.d.a p.d.n
  have h2 := pCs_one p.s.a p.s.n
  simp at h1 h2 ⊢
  exact ⟨h1, h2⟩
theorem pp_size {p : Pr} (hp : p.fit) : (pCs p.d.a p.d.n ++ pCs p.s.a p.s.n).toArray.size = 34 := by simp [pCs_len hp.1.1, pCs_len hp.2.1]
theorem zeroPr_fit : zeroPr.fit := ⟨zeroP_ok, zeroP_ok⟩
set_option maxRecDepth 100000 in
set_option maxHeartbeats 1600000 in
theorem pair_one {w : World} (E : Env w) {s : ByteArray} (hs : s.size < 4294967281) (hsp : pieces s ⟨#[32]⟩ = [s]) {p : Pf} (hp : p.ok) (hpp : parsePS s = (p, 0)) (hc : chkPP ⟨p, anyP (pfam p)⟩ = true) : Calls Tryz.prog 58 #[.string s] w fun e w' => e = .returned (.tuple #[vPP ⟨p, anyP (pfam p)⟩, .int .i64 0]) ∧ Below w.heap.size w w' := by
  have Hp := Lib.hid hp
  have Hc := Lib.hid hc
  have hq := Lib.hid (any_ok (pfam p))
  have Hpp := Lib.hid hpp
  clear hp hc hpp
  have B0 := Bx.start1 w (oPP zeroPr)
  have E0 := (E.go B0.1).2
  go_enter Tryz.func58, Tryz.ntmps58
  have hcall : ∀ {W : World}, Env W → Calls Tryz.prog 56 #[.string s] W fun e w' => e = .returned (.tuple #[.agg (pCs p.a p.n).toArray, .int .i64 0]) ∧ Below W.heap.size W w' := fun EW => (pp_any EW hs).mono fun e w' h => ⟨by have := h.1; unfold PPR at this; rw [this, Hpp.out]; rfl, h.2⟩
  have hchk : ∀ {W : World}, Calls Tryz.prog 60 #[.agg (pCs p.a p.n ++ pCs (anyP (pfam p)).a (anyP (pfam p)).n).toArray] W fun e w' => e = .returned (.int .i64 0) ∧ Below W.heap.size W w' := fun {W} => (chkPP_any (p := ⟨p, anyP (pfam p)⟩) ⟨Hp.out, hq.out⟩).mono fun e w' h => ⟨by rw [h.1, Hc.out]; rfl, h.2⟩
  have B1 := B0.alloc (.cells #[.string s] 9)
  have E1 := (E.go B1.1).2
  go_wp2_with (first
    | (go_at_call 99; refine (split_n (n := 1) E0 hs (by decide) hsp rfl).mono ?_; rintro e w1 ⟨rfl, rfl⟩)
    | (go_at_call 56; refine (hcall E1).mono ?_; clear hcall; rintro e w3 ⟨rfl, bel⟩; have B3 := B1.go bel; have B4 := B3.alloc (oP p); clear bel)
    | (refine wpList_store_new rfl 55 (.tmp 5) (.tmp 30) rfl rfl rfl (info55 Hp.out.1 _) (by rw [pCs_size Hp.out.1] <;> rfl) (pCs_one _ _) ?_))
  clear E0 E1 B0 B1 B3
  refine wp_region_held_drew (S := (Bx w w.heap.size [(w3.heap.size, oP p), (w.heap.size, oPP zeroPr)])) (by kernel_rfl) ((show Bx w w.heap.size [(w3.heap.size, oP p), (w.heap.size, oPP zeroPr)] _ from Bx.drew ⟨B4.1, ⟨B4.2.1.1, B4.2.1.2.2.1, trivial⟩, B4.2.2⟩)) (fun hHeld => ?_)
  refine wpAnyH_take (i := 0) (oi := { dst := (some 32), op := (Op.load 55 (Operand.tmp 5)), type := 55, pos := "addr.go:281", after := #[], guard := none }) (v := vPf p) rfl (by kernel_rfl) (by kernel_rfl) (by kernel_rfl) (fun _ _ _ h => h) (Or.inl ⟨by rfl, fun W hW => ?_⟩) (by assumption) ?_
  · obtain ⟨q1, q2, q3⟩ := BoxP.run hW.2.1.1 Hp.out.1
    exact exec_load 55 _ rfl rfl q3
  (try simp only [Act.put, List.setIfInBounds_toArray, List.set_cons_zero, List.set_cons_succ])
  refine wpAnyH_take (i := 1) (oi := { dst := (some 33), op := (Op.load 55 (Operand.tmp 5)), type := 55, pos := "addr.go:281", after := #[], guard := none }) (v := vPf p) rfl (by kernel_rfl) (by kernel_rfl) (by kernel_rfl) (fun _ _ _ h => h) (Or.inl ⟨by rfl, fun W hW => ?_⟩) (by assumption) ?_
  · obtain ⟨q1, q2, q3⟩ := BoxP.run hW.2.1.1 Hp.out.1
    exact exec_load 55 _ rfl rfl q3
  (try simp only [Act.put, List.setIfInBounds_toArray, List.set_cons_zero, List.set_cons_succ])
  refine wpAnyH_ready (rs := [2, 5]) (by kernel_rfl) (by simp) ?_
  refine AllReadyH.cons (o := { dst := (some 34), op := (Op.call { callee := (Callee.value (Operand.func 54)), args := #[(Operand.tmp 33)], argTypes := #[55] }), type := 3, pos := "addr.go:281", after := #[{ on := 1, ground := Ground.data }], guard := none }) rfl (fun K hK => ?_) (AllReadyH.cons (o := { dst := (some 7), op := (Op.alloc 57), type := 0, pos := "addr.go:281", after := #[], guard := none }) rfl (fun K hK => ?_) AllReadyH.nil)
  · go_simp
    refine (pfam_any Hp.out).mono ?_
    rintro e wA ⟨rfl, bel⟩
    refine hK.out _ _ ?_ (fun hHeld => ?_)
    · exact hHeld.go bel
    clear hK K
    (try simp only [Act.put, List.setIfInBounds_toArray, List.set_cons_zero, List.set_cons_succ])
    refine wpAnyH_ready (rs := [3, 5]) (by kernel_rfl) (by simp) ?_
    refine AllReadyH.cons (o := { dst := (some 35), op := (Op.call { callee := (Callee.value (Operand.func 55)), args := #[(Operand.tmp 34)], argTypes := #[3] }), type := 55, pos := "addr.go:281", after := #[{ on := 2, ground := Ground.data }, { on := 2, ground := Ground.chain }], guard := none }) rfl (fun K hK => ?_) (AllReadyH.cons (o := { dst := (some 7), op := (Op.alloc 57), type := 0, pos := "addr.go:281", after := #[], guard := none }) rfl (fun K hK => ?_) AllReadyH.nil)
    · go_simp
      refine (any_any (pfam p)).mono ?_
      rintro e wB ⟨rfl, bel⟩
      refine hK.out _ _ ?_ (fun hHeld => ?_)
      · exact hHeld.go bel
      clear hK K
      (try simp only [Act.put, List.setIfInBounds_toArray, List.set_cons_zero, List.set_cons_succ])
      refine wpAnyH_take (i := 4) (oi := { dst := (some 36), op := (Op.build 57 #[(0, (Operand.tmp 32)), (1, (Operand.tmp 35))]), type := 57, pos := "addr.go:281", after := #[{ on := 0, ground := Ground.data }, { on := 3, ground := Ground.data }], guard := none }) (v := .agg (pCs p.a p.n ++ pCs (anyP (pfam p)).a (anyP (pfam p)).n).toArray) rfl (by kernel_rfl) (by kernel_rfl) (by kernel_rfl) (fun _ _ _ h => h) (Or.inl ⟨by rfl, fun W hW => ?_⟩) (by assumption) ?_
      · exact exec_build2 (x := .tmp 32) (y := .tmp 35) rfl rfl rfl (built57 Hp.out.1 hq.out.1)
      (try simp only [Act.put, List.setIfInBounds_toArray, List.set_cons_zero, List.set_cons_succ])
      refine wpAnyH_ready (rs := [5]) (by kernel_rfl) (by simp) ?_
      refine AllReadyH.cons (o := { dst := (some 7), op := (Op.alloc 57), type := 0, pos := "addr.go:281", after := #[], guard := none }) rfl (fun K hK => ?_) AllReadyH.nil
      obtain ⟨hZ, nZ, lZ⟩ := hHeld.alloc' (oPP zeroPr) rfl
      go_simp
      refine hK.out _ _ ?_ (fun hHeld => ?_)
      · exact hHeld.go ((Below.refl _ _).alloc (Nat.le_refl _) _)
      clear hK K
      (try simp only [Act.put, List.setIfInBounds_toArray, List.set_cons_zero, List.set_cons_succ])
      refine wpAnyH_ready (rs := [6]) (by kernel_rfl) (by simp) ?_
      refine AllReadyH.cons (o := { dst := none, op := (Op.store 57 (Operand.tmp 7) (Operand.tmp 36)), type := 0, pos := "addr.go:281", after := #[{ on := 5, ground := Ground.data }, { on := 4, ground := Ground.data }, { on := 3, ground := Ground.chain }, { on := 0, ground := Ground.phase }, { on := 1, ground := Ground.phase }, { on := 2, ground := Ground.phase }, { on := 3, ground := Ground.phase }, { on := 4, ground := Ground.phase }, { on := 5, ground := Ground.phase }], guard := none }) rfl (fun K hK => ?_) AllReadyH.nil
      have hF := hZ.set1 (pCs p.a p.n ++ pCs (anyP (pfam p)).a (anyP (pfam p)).n).toArray lZ nZ
      refine wanted_go (by rfl) ?_
      refine wp_store_row 57 (.tmp 7) (.tmp 36) rfl _ _ rfl rfl 57 _ hZ.2.1.1 (info57 (p := ⟨p, anyP (pfam p)⟩) ⟨Hp.out, hq.out⟩) ((pp_size zeroPr_fit).trans (pp_size (p := ⟨p, anyP (pfam p)⟩) ⟨Hp.out, hq.out⟩).symm) (pp_one ⟨p, anyP (pfam p)⟩) ?_
      refine hK.out _ _ ?_ (fun hHeld => ?_)
      · exact ⟨hF.1, hF.2.1.2, hF.2.2⟩
      clear hK K
      (try simp only [Act.put, List.setIfInBounds_toArray, List.set_cons_zero, List.set_cons_succ])
      refine wpAnyH_done (by kernel_rfl) ?_ _
      clear hHeld
      go_wp2_with (first | (refine wpList_load_mid rfl 57 (.tmp 7) rfl _ 0 rfl _ _ (row_load hF.2.1.1) Tryz.underlying57 rfl (info57 (p := ⟨p, anyP (pfam p)⟩) ⟨Hp.out, hq.out⟩) ?_) | (go_at_call 60; refine hchk.mono ?_; clear hchk; rintro e w6 ⟨rfl, bel6⟩; have hG := hF.go bel6) | (refine wpList_load_mid rfl 57 (.tmp 7) rfl _ 0 rfl _ _ (row_load hG.2.1.1) Tryz.underlying57 rfl (info57 (p := ⟨p, anyP (pfam p)⟩) ⟨Hp.out, hq.out⟩) ?_) | (refine wpList_store_row rfl 57 (.tmp 2) (.tmp 60) rfl w.heap.size _ rfl rfl 57 _ hG.2.1.2.2.1 (info57 (p := ⟨p, anyP (pfam p)⟩) ⟨Hp.out, hq.out⟩) ((pp_size zeroPr_fit).trans (pp_size (p := ⟨p, anyP (pfam p)⟩) ⟨Hp.out, hq.out⟩).symm) (pp_one ⟨p, anyP (pfam p)⟩) ?_))
      refine bodyPost_ret (v := .tuple #[vPP ⟨p, anyP (pfam p)⟩, .int .i64 0]) ?_ rfl ⟨rfl, below_row hG.1 (Nat.le_refl _) _⟩
      exact results_cell_tmp rfl _ _ rfl (BoxPP.run (p := ⟨p, anyP (pfam p)⟩) (setRow_heap _ _ _ _ _ _ hG.2.1.2.2.1) ⟨Hp.out, hq.out⟩).2.2 rfl
    · obtain ⟨hZ, nZ, lZ⟩ := hHeld.alloc' (oPP zeroPr) rfl
      go_simp
      refine hK.out _ _ ?_ (fun hHeld => ?_)
      · exact hHeld.go ((Below.refl _ _).alloc (Nat.le_refl _) _)
      clear hK K
      (try simp only [Act.put, List.setIfInBounds_toArray, List.set_cons_zero, List.set_cons_succ])
      refine wpAnyH_ready (rs := [3]) (by kernel_rfl) (by simp) ?_
      refine AllReadyH.cons (o := { dst := (some 35), op := (Op.call { callee := (Callee.value (Operand.func 55)), args := #[(Operand.tmp 34)], argTypes := #[3] }), type := 55, pos := "addr.go:281", after := #[{ on := 2, ground := Ground.data }, { on := 2, ground := Ground.chain }], guard := none }) rfl (fun K hK => ?_) AllReadyH.nil
      go_simp
      refine (any_any (pfam p)).mono ?_
      rintro e wB ⟨rfl, bel⟩
      replace hZ := hZ.go bel
      refine hK.out _ _ ?_ (fun hHeld => ?_)
      · exact hHeld.go bel
      clear hK K
      (try simp only [Act.put, List.setIfInBounds_toArray, List.set_cons_zero, List.set_cons_succ])
      refine wpAnyH_take (i := 4) (oi := { dst := (some 36), op := (Op.build 57 #[(0, (Operand.tmp 32)), (1, (Operand.tmp 35))]), type := 57, pos := "addr.go:281", after := #[{ on := 0, ground := Ground.data }, { on := 3, ground := Ground.data }], guard := none }) (v := .agg (pCs p.a p.n ++ pCs (anyP (pfam p)).a (anyP (pfam p)).n).toArray) rfl (by kernel_rfl) (by kernel_rfl) (by kernel_rfl) (fun _ _ _ h => h) (Or.inl ⟨by rfl, fun W hW => ?_⟩) (by assumption) ?_
      · exact exec_build2 (x := .tmp 32) (y := .tmp 35) rfl rfl rfl (built57 Hp.out.1 hq.out.1)
      (try simp only [Act.put, List.setIfInBounds_toArray, List.set_cons_zero, List.set_cons_succ])
      refine wpAnyH_ready (rs := [6]) (by kernel_rfl) (by simp) ?_
      refine AllReadyH.cons (o := { dst := none, op := (Op.store 57 (Operand.tmp 7) (Operand.tmp 36)), type := 0, pos := "addr.go:281", after := #[{ on := 5, ground := Ground.data }, { on := 4, ground := Ground.data }, { on := 3, ground := Ground.chain }, { on := 0, ground := Ground.phase }, { on := 1, ground := Ground.phase }, { on := 2, ground := Ground.phase }, { on := 3, ground := Ground.phase }, { on := 4, ground := Ground.phase }, { on := 5, ground := Ground.phase }], guard := none }) rfl (fun K hK => ?_) AllReadyH.nil
      have hF := hZ.set1 (pCs p.a p.n ++ pCs (anyP (pfam p)).a (anyP (pfam p)).n).toArray lZ nZ
      refine wanted_go (by rfl) ?_
      refine wp_store_row 57 (.tmp 7) (.tmp 36) rfl _ _ rfl rfl 57 _ hZ.2.1.1 (info57 (p := ⟨p, anyP (pfam p)⟩) ⟨Hp.out, hq.out⟩) ((pp_size zeroPr_fit).trans (pp_size (p := ⟨p, anyP (pfam p)⟩) ⟨Hp.out, hq.out⟩).symm) (pp_one ⟨p, anyP (pfam p)⟩) ?_
      refine hK.out _ _ ?_ (fun hHeld => ?_)
      · exact ⟨hF.1, hF.2.1.2, hF.2.2⟩
      clear hK K
      (try simp only [Act.put, List.setIfInBounds_toArray, List.set_cons_zero, List.set_cons_succ])
      refine wpAnyH_done (by kernel_rfl) ?_ _
      clear hHeld
      go_wp2_with (first | (refine wpList_load_mid rfl 57 (.tmp 7) rfl _ 0 rfl _ _ (row_load hF.2.1.1) Tryz.underlying57 rfl (info57 (p := ⟨p, anyP (pfam p)⟩) ⟨Hp.out, hq.out⟩) ?_) | (go_at_call 60; refine hchk.mono ?_; clear hchk; rintro e w6 ⟨rfl, bel6⟩; have hG := hF.go bel6) | (refine wpList_load_mid rfl 57 (.tmp 7) rfl _ 0 rfl _ _ (row_load hG.2.1.1) Tryz.underlying57 rfl (info57 (p := ⟨p, anyP (pfam p)⟩) ⟨Hp.out, hq.out⟩) ?_) | (refine wpList_store_row rfl 57 (.tmp 2) (.tmp 60) rfl w.heap.size _ rfl rfl 57 _ hG.2.1.2.2.1 (info57 (p := ⟨p, anyP (pfam p)⟩) ⟨Hp.out, hq.out⟩) ((pp_size zeroPr_fit).trans (pp_size (p := ⟨p, anyP (pfam p)⟩) ⟨Hp.out, hq.out⟩).symm) (pp_one ⟨p, anyP (pfam p)⟩) ?_))
      refine bodyPost_ret (v := .tuple #[vPP ⟨p, anyP (pfam p)⟩, .int .i64 0]) ?_ rfl ⟨rfl, below_row hG.1 (Nat.le_refl _) _⟩
      exact results_cell_tmp rfl _ _ rfl (BoxPP.run (p := ⟨p, anyP (pfam p)⟩) (setRow_heap _ _ _ _ _ _ hG.2.1.2.2.1) ⟨Hp.out, hq.out⟩).2.2 rfl
  · obtain ⟨hZ, nZ, lZ⟩ := hHeld.alloc' (g := w3.heap.size + 1) (oPP zeroPr) (World.size_alloc _ _)
    go_simp
    refine hK.out _ _ ?_ (fun hHeld => ?_)
    · exact hHeld.go ((Below.refl _ _).alloc (Nat.le_refl _) _)
    clear hK K
    (try simp only [Act.put, List.setIfInBounds_toArray, List.set_cons_zero, List.set_cons_succ])
    refine wpAnyH_ready (rs := [2]) (by kernel_rfl) (by simp) ?_
    refine AllReadyH.cons (o := { dst := (some 34), op := (Op.call { callee := (Callee.value (Operand.func 54)), args := #[(Operand.tmp 33)], argTypes := #[55] }), type := 3, pos := "addr.go:281", after := #[{ on := 1, ground := Ground.data }], guard := none }) rfl (fun K hK => ?_) AllReadyH.nil
    go_simp
    refine (pfam_any Hp.out).mono ?_
    rintro e wA ⟨rfl, bel⟩
    replace hZ := hZ.go bel
    refine hK.out _ _ ?_ (fun hHeld => ?_)
    · exact hHeld.go bel
    clear hK K
    (try simp only [Act.put, List.setIfInBounds_toArray, List.set_cons_zero, List.set_cons_succ])
    refine wpAnyH_ready (rs := [3]) (by kernel_rfl) (by simp) ?_
    refine AllReadyH.cons (o := { dst := (some 35), op := (Op.call { callee := (Callee.value (Operand.func 55)), args := #[(Operand.tmp 34)], argTypes := #[3] }), type := 55, pos := "addr.go:281", after := #[{ on := 2, ground := Ground.data }, { on := 2, ground := Ground.chain }], guard := none }) rfl (fun K hK => ?_) AllReadyH.nil
    go_simp
    refine (any_any (pfam p)).mono ?_
    rintro e wB ⟨rfl, bel⟩
    replace hZ := hZ.go bel
    refine hK.out _ _ ?_ (fun hHeld => ?_)
    · exact hHeld.go bel
    clear hK K
    (try simp only [Act.put, List.setIfInBounds_toArray, List.set_cons_zero, List.set_cons_succ])
    refine wpAnyH_take (i := 4) (oi := { dst := (some 36), op := (Op.build 57 #[(0, (Operand.tmp 32)), (1, (Operand.tmp 35))]), type := 57, pos := "addr.go:281", after := #[{ on := 0, ground := Ground.data }, { on := 3, ground := Ground.data }], guard := none }) (v := .agg (pCs p.a p.n ++ pCs (anyP (pfam p)).a (anyP (pfam p)).n).toArray) rfl (by kernel_rfl) (by kernel_rfl) (by kernel_rfl) (fun _ _ _ h => h) (Or.inl ⟨by rfl, fun W hW => ?_⟩) (by assumption) ?_
    · exact exec_build2 (x := .tmp 32) (y := .tmp 35) rfl rfl rfl (built57 Hp.out.1 hq.out.1)
    (try simp only [Act.put, List.setIfInBounds_toArray, List.set_cons_zero, List.set_cons_succ])
    refine wpAnyH_ready (rs := [6]) (by kernel_rfl) (by simp) ?_
    refine AllReadyH.cons (o := { dst := none, op := (Op.store 57 (Operand.tmp 7) (Operand.tmp 36)), type := 0, pos := "addr.go:281", after := #[{ on := 5, ground := Ground.data }, { on := 4, ground := Ground.data }, { on := 3, ground := Ground.chain }, { on := 0, ground := Ground.phase }, { on := 1, ground := Ground.phase }, { on := 2, ground := Ground.phase }, { on := 3, ground := Ground.phase }, { on := 4, ground := Ground.phase }, { on := 5, ground := Ground.phase }], guard := none }) rfl (fun K hK => ?_) AllReadyH.nil
    have hF := hZ.set1 (pCs p.a p.n ++ pCs (anyP (pfam p)).a (anyP (pfam p)).n).toArray lZ nZ
    refine wanted_go (by rfl) ?_
    refine wp_store_row 57 (.tmp 7) (.tmp 36) rfl _ _ rfl rfl 57 _ hZ.2.1.1 (info57 (p := ⟨p, anyP (pfam p)⟩) ⟨Hp.out, hq.out⟩) ((pp_size zeroPr_fit).trans (pp_size (p := ⟨p, anyP (pfam p)⟩) ⟨Hp.out, hq.out⟩).symm) (pp_one ⟨p, anyP (pfam p)⟩) ?_
    refine hK.out _ _ ?_ (fun hHeld => ?_)
    · exact ⟨hF.1, hF.2.1.2, hF.2.2⟩
    clear hK K
    (try simp only [Act.put, List.setIfInBounds_toArray, List.set_cons_zero, List.set_cons_succ])
    refine wpAnyH_done (by kernel_rfl) ?_ _
    clear hHeld
    go_wp2_with (first | (refine wpList_load_mid rfl 57 (.tmp 7) rfl _ 0 rfl _ _ (row_load hF.2.1.1) Tryz.underlying57 rfl (info57 (p := ⟨p, anyP (pfam p)⟩) ⟨Hp.out, hq.out⟩) ?_) | (go_at_call 60; refine hchk.mono ?_; clear hchk; rintro e w6 ⟨rfl, bel6⟩; have hG := hF.go bel6) | (refine wpList_load_mid rfl 57 (.tmp 7) rfl _ 0 rfl _ _ (row_load hG.2.1.1) Tryz.underlying57 rfl (info57 (p := ⟨p, anyP (pfam p)⟩) ⟨Hp.out, hq.out⟩) ?_) | (refine wpList_store_row rfl 57 (.tmp 2) (.tmp 60) rfl w.heap.size _ rfl rfl 57 _ hG.2.1.2.2.1 (info57 (p := ⟨p, anyP (pfam p)⟩) ⟨Hp.out, hq.out⟩) ((pp_size zeroPr_fit).trans (pp_size (p := ⟨p, anyP (pfam p)⟩) ⟨Hp.out, hq.out⟩).symm) (pp_one ⟨p, anyP (pfam p)⟩) ?_))
    refine bodyPost_ret (v := .tuple #[vPP ⟨p, anyP (pfam p)⟩, .int .i64 0]) ?_ rfl ⟨rfl, below_row hG.1 (Nat.le_refl _) _⟩
    exact results_cell_tmp rfl _ _ rfl (BoxPP.run (p := ⟨p, anyP (pfam p)⟩) (setRow_heap _ _ _ _ _ _ hG.2.1.2.2.1) ⟨Hp.out, hq.out⟩).2.2 rfl
end Go.Proofs.YtnljjlaececnkaaGreatDoor
/-
  Best. Condition: addresses are sixteen bytes, lengths a machine's numbers.
-/
namespace Go.Proofs.YtnljjlaececnkaaGreatDoor
open Go.RowKit
set_option linter.unusedVariables false
set_option linter.unusedSimpArgs false
end Go.Proofs.YtnljjlaececnkaaGreatDoor
/-
  The prefix of an address's first bits; the plain number of an error. Condition: an address is sixteen bytes, a length a machine's number.
-/
namespace Go.Proofs.YtnljjlaececnkaaGreatDoor
open Go.RowKit
set_option linter.unusedVariables false
set_option linter.unusedSimpArgs false
end Go.Proofs.YtnljjlaececnkaaGreatDoor
/-
  What the calls of the stage's first line answer: closed facts. No condition.
-/
namespace Go.Proofs.YtnljjlaececnkaaGreatDoor
open Go.RowKit
set_option linter.unusedVariables false
set_option linter.unusedSimpArgs false
end Go.Proofs.YtnljjlaececnkaaGreatDoor
/-
  The boxes of a call, the newest first; steps that lay a box, write one, read one. No condition.
-/
namespace Go.Proofs.YtnljjlaececnkaaGreatDoor
open Go.RowKit
set_option linter.unusedVariables false
set_option linter.unusedSimpArgs false
/-- What was there has not turned; these boxes lie there, the newest first. -/
structure Bz (w : World) (l : List (Nat × Obj)) (W : World) : Prop where
  bel : Below w.heap.size w W
  all : AllB W l
  ord : l.Pairwise (fun x y => y.1 < x.1)
  low : ∀ x ∈ l, w.heap.size ≤ x.1
namespace Bz
variable {w W W2 : World} {l : List (Nat × Obj)}
theorem start (w : World) : Bz w [] w := ⟨Below.refl _ _, trivial, List.Pairwise.nil, fun x h => by cases h⟩
theorem go (h : Bz w l W) (hb : Below W.heap.size W W2) : Bz w l W2 := ⟨h.bel.trans (hb.mono h.bel.size), AllB.go hb h.all, h.ord, h.low⟩
theorem alloc (h : Bz w l W) (o : Obj) {g : Nat} (hg : W.heap.size = g) : Bz w ((g, o) :: l) (W.alloc o) := by
  subst hg
  exact ⟨h.bel.alloc h.bel.size o, ⟨box1 W o, h.all.alloc o⟩, List.pairwise_cons.2 ⟨fun x hx => AllB.lt h.all x hx, h.ord⟩, fun x hx => by
    rcases List.mem_cons.1 hx with rfl | hx
    · exact h.bel.size
    · exact h.low x hx⟩
theorem drew (h : Bz w l W) : Bz w l W.drew := ⟨bel_drew h.bel, AllB.same (w := W) (w2 := W.drew) rfl h.all, h.ord, h.low⟩
theorem tail {x : Nat × Obj} (h : Bz w (x :: l) W) : Bz w l W := ⟨h.bel, h.all.2, (List.pairwise_cons.1 h.ord).2, fun y hy => h.low y (by simp [hy])⟩
end Bz
theorem AllB.get {W : World} : ∀ {l : List (Nat × Obj)}, AllB W l → ∀ (k : Nat) {x : Nat × Obj}, l[k]? = some x → W.heap[x.1]? = some x.2
  | [], _, k, x, h => by simp at h
  | y :: l, ⟨h, r⟩, 0, x, hx => by simp at hx; subst hx; exact h
  | y :: l, ⟨h, r⟩, k + 1, x, hx => AllB.get r k (by simpa using hx)
theorem AllB.of_get {W : World} : ∀ {l : List (Nat × Obj)}, (∀ (k : Nat) (x : Nat × Obj), l[k]? = some x → W.heap[x.1]? = some x.2) → AllB W l
  | [], _ => trivial
  | y :: l, h => ⟨h 0 y rfl, AllB.of_get fun k x hx => h (k + 1) x (by simpa using hx)⟩
/-- A box is written anew. -/
theorem Bz.set {w W : World} {l : List (Nat × Obj)} (h : Bz w l W) (k : Nat) {g : Nat} {old : Array Value} {t : TypeId} (hk : l[k]? = some (g, .cells old t (0, 0))) (cs : Array Value) : Bz w (l.set k (g, .cells cs t (0, 0))) (W.setRow g cs) := by
  obtain ⟨hlt, he⟩ := List.getElem?_eq_some_iff.1 hk
  have hkeys : (l.set k (g, .cells cs t (0, 0))).map (·.1) = l.map (·.1) := by
    rw [List.map_set]
    apply List.ext_getElem?
    intro j
    rw [List.getElem?_set]
    split
    · rename_i hj
      subst hj
      rw [if_pos (by simpa using hlt), List.getElem?_map, hk]; rfl
    · rfl
  have hmem : (g, .cells old t (0, 0)) ∈ l := List.mem_of_getElem? hk
  refine ⟨below_row h.bel (h.low _ hmem) cs, AllB.of_get fun j x hx => ?_, ?_, fun x hx => ?_⟩
  · by_cases hj : k = j
    · subst hj
      rw [List.getElem?_set_self hlt] at hx
      cases hx
      exact setRow_heap _ _ _ _ _ _ (h.all.get k hk)
    · rw [List.getElem?_set_ne hj] at hx
      have hne : x.1 ≠ g := by
        obtain ⟨hjl, hje⟩ := List.getElem?_eq_some_iff.1 hx
        have hp := List.pairwise_iff_getElem.1 h.ord
        rcases Nat.lt_or_gt_of_ne hj with hj2 | hj2
        · have := hp k j hlt hjl hj2; rw [he, hje] at this; simp only at this; omega
        · have := hp j k hjl hlt hj2; rw [he, hje] at this; simp only at this; omega
      rw [setRow_other _ _ _ _ hne]
      exact h.all.get j hx
  · have : ((l.set k (g, Obj.cells cs t (0, 0))).map (·.1)).Pairwise (fun x y => y < x) := by
      rw [hkeys]; exact List.pairwise_map.2 h.ord
    exact List.pairwise_map.1 this
  · have hx2 : x.1 ∈ (l.set k (g, Obj.cells cs t (0, 0))).map (·.1) := List.mem_map.2 ⟨x, hx, rfl⟩
    rw [hkeys] at hx2
    obtain ⟨y, hy, e⟩ := List.mem_map.1 hx2
    rw [← e]; exact h.low y hy
theorem Bz.env {w W : World} {l : List (Nat × Obj)} (h : Bz w l W) (E : Env w) : Env W := (E.go h.bel).2
/-! ### what lies in a box, read -/
theorem loadVar_int {P : Program} {w : World} {ty : TypeId} {k : IntKind} {v : Value} {ad : Addr} (hu : P.underlying ty = some (.int k)) (h : w.cell? ad = some v) : (loadVar ty ad).run P w = .ok v w := by
  simp [loadVar, isAgg, run_underlying hu, h]
theorem loadVar_str {P : Program} {w : World} {ty : TypeId} {v : Value} {ad : Addr} (hu : P.underlying ty = some .string) (h : w.cell? ad = some v) : (loadVar ty ad).run P w = .ok v w := by
  simp [loadVar, isAgg, run_underlying hu, h]
section
variable {W : World} {g : Nat}
theorem ldP {p : Pf} (h : W.heap[g]? = some (oP p)) (hp : p.ok) : (loadVar 55 ⟨g, 0, none⟩).run Tryz.prog W = .ok (vPf p) W := (BoxP.run h hp.1).2.2
theorem ldPa {p : Pf} (h : W.heap[g]? = some (oP p)) (hp : p.ok) : (loadVar 42 ⟨g, 0, none⟩).run Tryz.prog W = .ok (vA p.a) W := (BoxP.run h hp.1).1
theorem ldPn {p : Pf} (h : W.heap[g]? = some (oP p)) (hp : p.ok) : (loadVar 3 ⟨g, 16, none⟩).run Tryz.prog W = .ok (.int .i64 p.n) W := loadVar_int Tryz.underlying3 (BoxP.run h hp.1).2.1
theorem ldPP {p : Pr} (h : W.heap[g]? = some (oPP p)) (hp : p.fit) : (loadVar 57 ⟨g, 0, none⟩).run Tryz.prog W = .ok (vPP p) W := (BoxPP.run h hp).2.2
theorem ldPPd {p : Pr} (h : W.heap[g]? = some (oPP p)) (hp : p.fit) : (loadVar 55 ⟨g, 0, none⟩).run Tryz.prog W = .ok (vPf p.d) W := (BoxPP.run h hp).1
theorem ldPPs {p : Pr} (h : W.heap[g]? = some (oPP p)) (hp : p.fit) : (loadVar 55 ⟨g, 17, none⟩).run Tryz.prog W = .ok (vPf p.s) W := (BoxPP.run h hp).2.1
end
/-! ### a box laid -/
theorem exec_alloc {P : Program} {o : Oper} {a : Act} {w : World} {t : TypeId} {z : Value} (ho : o.op = .alloc t) (hz : (P.info? t).bind (·.zero) = some z) :
    (execOp a.eval o).run P w = .ok (.value (.pointer (some ⟨w.heap.size, 0, none⟩))) (w.alloc (.cells z.cells t)) := by
  cases hi : P.info? t with
  | none => rw [hi] at hz; cases hz
  | some i =>
    rw [hi] at hz
    simp only [Option.bind_some] at hz
    unfold execOp
    simp [ho, Instr.alloc, zeroValue, typeInfo, hi, hz, newVar, newRow, Result.andThen]
theorem z55 : (Tryz.prog.info? 55).bind (·.zero) = some (vPf zeroP) := by kernel_rfl
section
variable {P : Program} {ops : Array Oper} {rest : List Oper} {o1 o2 : Oper} {a : Act} {w : World} {Q : Exit → Act → World → Prop}
/-- A variable that is made and laid at once. -/
theorem wpList_new {t : TypeId} {d : Tmp} {y : Operand} {z : Value} {cells : Array Value} (hg1 : o1.guard = none) (hg2 : o2.guard = none) (h1 : o1.op = .alloc t) (hd : o1.dst = some d) (hz : (P.info? t).bind (·.zero) = some z) (h2 : o2.op = .store t (.tmp d) y)
    (hx : (a.put (some d) (.pointer (some ⟨w.heap.size, 0, none⟩))).eval (.tmp d) = .pointer (some ⟨w.heap.size, 0, none⟩)) (hy : (a.put (some d) (.pointer (some ⟨w.heap.size, 0, none⟩))).eval y = .agg cells)
    (hi : (P.info? t).map (·.size) = some cells.size) (hs : z.cells.size = cells.size) (hone : cells.all (·.oneCell') = true)
    (h : wpList P ops Q rest ((a.put (some d) (.pointer (some ⟨w.heap.size, 0, none⟩))).put o2.dst undef) (w.alloc (.cells cells t))) : wpList P ops Q (o1 :: o2 :: rest) a w := by
  refine wpList_run hg1 (exec_alloc h1 hz) ?_
  rw [hd]
  exact wpList_store_new hg2 t (.tmp d) y h2 hx hy hi hs hone h
end
theorem sizeP' {p : Pf} (ha : p.ok) : (vPf zeroP).cells.size = (pCs p.a p.n).toArray.size := by rw [pCs_size ha.1]; rfl
theorem Row.new {W : World} {vs : List Value} {ty : TypeId} {sz n : Nat} (hl : vs.length = n * sz) (hm : n ≤ 1000) : Row (W.alloc (.cells vs.toArray ty)) (fun b => (W.alloc (.cells vs.toArray ty)).heap.size ≤ b) sz (.slice (some ⟨W.heap.size, 0, none⟩) n n) n vs := by
  refine ⟨hl, _, _, rfl, Nat.le_refl _, by unfold maxLen; omega, (fun h => by cases h), fun a ha _ => ?_⟩
  obtain rfl : (⟨W.heap.size, 0, none⟩ : Addr) = a := by injection ha
  refine ⟨_, _, rfl, by simp, by simp, fun j u hj => ?_⟩
  have := new_cells W vs ty _ rfl j u hj
  rwa [Addr.add_lit] at this
theorem Row.box {W : World} {g : Nat} {vs : List Value} {ty : TypeId} {sz n : Nat} (h : W.heap[g]? = some (.cells vs.toArray ty (0, 0))) (hl : vs.length = n * sz) (hm : n ≤ 1000) : Row W (fun b => W.heap.size ≤ b) sz (.slice (some ⟨g, 0, none⟩) n n) n vs := by
  refine ⟨hl, _, _, rfl, Nat.le_refl _, by unfold maxLen; omega, (fun h => by cases h), fun a ha _ => ?_⟩
  obtain rfl : (⟨g, 0, none⟩ : Addr) = a := by injection ha
  have hlt := lt_of_obj h
  exact ⟨_, _, rfl, by omega, hlt, fun j u hj => row_load h j u hj⟩
end Go.Proofs.YtnljjlaececnkaaGreatDoor
/-
  The document's digits. Condition: a number that is not below 0 and that a machine holds.
-/
namespace Go.Proofs.YtnljjlaececnkaaGreatDoor
open Go.RowKit
set_option linter.unusedVariables false
set_option linter.unusedSimpArgs false
theorem itoa_len (n : Int) (h0 : 0 ≤ n) (h1 : n ≤ 9223372036854775807) : (Lib.itoa n).length ≤ 21 := Lib.itoa_length_le n (by omega) h1
end Go.Proofs.YtnljjlaececnkaaGreatDoor
/-
  The document's numbers. Condition: a number has at most eighteen digits.
-/
namespace Go.Proofs.YtnljjlaececnkaaGreatDoor
open Go.RowKit
set_option linter.unusedVariables false
set_option linter.unusedSimpArgs false
theorem get_byte (s : ByteArray) (k : Nat) (h : k < s.size) : s.data.toList[k]? = some s[k] := by
  rw [List.getElem?_eq_getElem (by simpa using h)]; rfl
theorem len_data (s : ByteArray) : s.data.toList.length = s.size := Array.length_toList
end Go.Proofs.YtnljjlaececnkaaGreatDoor
/-
  The document's groups of base 16; a text at a byte. Condition: a text is no longer than memory has room for.
-/
namespace Go.Proofs.YtnljjlaececnkaaGreatDoor
open Go.RowKit
set_option linter.unusedVariables false
set_option linter.unusedSimpArgs false
/-! ### a text at a byte -/
def strs (l : List ByteArray) : List Value := l.map Value.string
theorem strs_one (l : List ByteArray) : ∀ u ∈ strs l, u.oneCell' = true := by intro u hu; obtain ⟨x, _, rfl⟩ := List.mem_map.1 hu; rfl
/-- What stands ahead is cut; the rest is still to be cut. -/
def CutI (c : UInt8) (l : List UInt8) (i at_ : Nat) (done : List ByteArray) : Prop := at_ ≤ i ∧ done.length ≤ i ∧ cutL c l = done.map (·.data.toList) ++ glue ((l.drop at_).take (i - at_)) (cutL c (l.drop i))
theorem CutI.start (c : UInt8) (l : List UInt8) : CutI c l 0 0 [] := ⟨Nat.le_refl _, Nat.le_refl _, by simp [glue_nil (cutL_ne c l)]⟩
theorem CutI.step {c : UInt8} {l : List UInt8} {i at_ : Nat} {done : List ByteArray} (h : CutI c l i at_ done) {x : UInt8} (hx : l[i]? = some x) (hn : x ≠ c) : CutI c l (i + 1) at_ done := by
  obtain ⟨h1, h2, h3⟩ := h
  obtain ⟨hi, he⟩ := List.getElem?_eq_some_iff.1 hx
  refine ⟨by omega, by omega, ?_⟩
  rw [h3]
  congr 1
  rw [List.drop_eq_getElem_cons hi, he, cutL, if_neg hn, glue_glue _ _ (cutL_ne _ _)]
  congr 1
  have : i + 1 - at_ = (i - at_) + 1 := by omega
  rw [this, take_snoc (y := x)]
  rw [List.getElem?_drop, show at_ + (i - at_) = i by omega]; exact hx
theorem CutI.hit {c : UInt8} {l : List UInt8} {i at_ : Nat} {done : List ByteArray} (h : CutI c l i at_ done) (hx : l[i]? = some c) {t : ByteArray} (ht : t.data.toList = (l.drop at_).take (i - at_)) : CutI c l (i + 1) (i + 1) (done ++ [t]) := by
  obtain ⟨h1, h2, h3⟩ := h
  obtain ⟨hi, he⟩ := List.getElem?_eq_some_iff.1 hx
  refine ⟨by omega, by simp; omega, ?_⟩
  rw [h3, List.drop_eq_getElem_cons hi, he, cutL, if_pos rfl, List.map_append, List.append_assoc]
  congr 1
  rw [Nat.sub_self, List.take_zero, glue_nil (cutL_ne _ _)]
  simp [glue, ht]
theorem CutI.last {c : UInt8} {l : List UInt8} {at_ : Nat} {done : List ByteArray} (h : CutI c l l.length at_ done) {t : ByteArray} (ht : t.data.toList = (l.drop at_).take (l.length - at_)) : cutL c l = (done ++ [t]).map (·.data.toList) := by
  obtain ⟨h1, h2, h3⟩ := h
  rw [h3, List.drop_length, List.map_append]
  congr 1
  simp [cutL, glue, ht]
end Go.Proofs.YtnljjlaececnkaaGreatDoor
/-
  An address as four numbers, the program's way and the document's; its family, the document's way. Condition: an address is sixteen bytes.
-/
namespace Go.Proofs.YtnljjlaececnkaaGreatDoor
open Go.RowKit
set_option linter.unusedVariables false
set_option linter.unusedSimpArgs false
theorem itoa_call {w : World} (E : Env w) {n : Int} (h0 : -9223372036854775808 ≤ n) (h1 : n ≤ 9223372036854775807) : Calls Tryz.prog 117 #[.int .i64 n] w fun e w' => e = .returned (.string ⟨(Lib.itoa n).toArray⟩) ∧ Below w.heap.size w w' := by
  refine (Tryz.strconv_Itoa n h0 h1 w (E.go (Below.refl _ _)).1.pow).mono fun e W2 hc2 => ⟨hc2.1, ?_⟩
  obtain ⟨k, os, rfl⟩ := hc2.2
  exact Lib.below_grow _ _ (Nat.le_refl _) k os
/-- Join of a row of the call's own. -/
theorem join_call {w : World} {v : Value} {xs : List ByteArray} {sep : ByteArray} {n : Nat} (hn : xs.length = n) (ho : w.ownsRow 0 9 1 v n (strs xs)) (hx : xs.length ≤ 1000) (hlen : (Lib.join (xs.map (·.data.toList)) sep.data.toList).length ≤ 140737488355328) :
    Calls Tryz.prog 114 #[v, .string sep] w fun e w' => e = .returned (.string ⟨(Lib.join (xs.map (·.data.toList)) sep.data.toList).toArray⟩) ∧ Below w.heap.size w w' := by
  subst hn
  obtain ⟨A, c2, rfl, hc1, hc2⟩ := own_slice ho
  rcases Nat.eq_zero_or_pos xs.length with h0 | h0
  · obtain rfl : xs = [] := List.eq_nil_of_length_eq_zero h0
    exact (Tryz.strings_Join_none _ _ _ _).mono fun e w' h => ⟨h.1, by rw [h.2]; exact Below.refl _ _⟩
  · obtain ⟨k, rfl, -, hk, hcell, -, -⟩ := own_at ho h0
    exact Tryz.strings_Join k 0 c2 xs sep w (fun j x hj => by
      have := hcell j (.string x) (by simp [strs, hj])
      simpa using this) hk (by omega) (by omega) hlen
theorem dotted_getD {a : List Int} (ha : isA a) : dottedS a = Lib.itoa (a.getD 12 0) ++ [46] ++ Lib.itoa (a.getD 13 0) ++ [46] ++ Lib.itoa (a.getD 14 0) ++ [46] ++ Lib.itoa (a.getD 15 0) := by
  obtain ⟨x, y, z, t, hd, -⟩ := last4 ha
  have g : ∀ j, a.getD (12 + j) 0 = [x, y, z, t].getD j 0 := fun j => by rw [← hd, List.getD_eq_getElem?_getD, List.getD_eq_getElem?_getD, List.getElem?_drop]
  have g0 := g 0
  have g1 := g 1
  have g2 := g 2
  have g3 := g 3
  simp at g0 g1 g2 g3
  unfold dottedS
  rw [hd, dotted_four]
  simp [List.getD_eq_getElem?_getD, g0, g1, g2, g3]
theorem AllB.fr {S : Nat → Prop} {w w2 : World} (h : Fr S w w2) : ∀ {l : List (Nat × Obj)}, AllB w l → (∀ x ∈ l, ¬ S x.1) → AllB w2 l
  | [], _, _ => trivial
  | x :: l, ⟨hx, r⟩, hn => ⟨h.obj hx (hn x (by simp)), AllB.fr h r fun y hy => hn y (by simp [hy])⟩
theorem Bz.fr {S : Nat → Prop} {w W W2 : World} {l : List (Nat × Obj)} (h : Bz w l W) (hf : Fr S W W2) (hn : ∀ x ∈ l, ¬ S x.1) (hs : ∀ b, S b → w.heap.size ≤ b) : Bz w l W2 :=
  ⟨h.bel.trans (hf.belowS hs h.bel.size), AllB.fr hf h.all hn, h.ord, h.low⟩
/-- The numbers of an address that are texts by now. -/
def dots (a : List Int) (j : Nat) : List ByteArray := ((a.drop 12).take j).map fun x => ⟨(Lib.itoa x).toArray⟩
theorem slice42_low (W : World) (g : Nat) : (Instr.sliceAt 42 (.pointer (some ⟨g, 0, none⟩)) (some (.int .i64 12)) none none).run Tryz.prog W = .ok (.slice (some ⟨g, 12, none⟩) 4 4) W := by
  have a16 : Tryz.prog.arrayLen 42 = 16 := by kernel_rfl
  have e5 : Tryz.prog.elem 42 = 5 := by kernel_rfl
  have hs : (sizeOf 5).run Tryz.prog W = .ok 1 W := by kernel_rfl
  have h := run_sliceAt_array_l (P := Tryz.prog) W 42 ⟨g, 0, none⟩ (by kernel_rfl) .i64 12 (by decide) (by rw [a16]; decide)
  rw [h, e5, hs, a16]
  simp [Result.andThen, slicedAt, Addr.add]
set_option maxRecDepth 100000 in
set_option maxHeartbeats 1600000 in
/-- dotted. -/
theorem dotted_any {w : World} (E : Env w) {a : List Int} (ha : isA a) : Calls Tryz.prog 105 #[vA a] w fun e w' => e = .returned (.string ⟨(dottedS a).toArray⟩) ∧ Below w.heap.size w w' := by
  have B := ((Bz.start w).alloc (oA a) rfl : Bz w [(w.heap.size, oA a)] _)
  have Ha := Lib.hid ha
  have hsl := fun W => slice42_low W w.heap.size
  clear ha
  unfold vA
  go_enter Tryz.func105, Tryz.ntmps105
  go_wp2
  go_loopw [3, 8] (fun x3 x8 wr => ∃ j : Nat, x8 = .int .i64 j ∧ j ≤ 4 ∧ wr.ownsRow 0 9 1 x3 j (strs (dots a j)) ∧ Lo (w.heap.size + 1) x3 ∧ Bz w [(w.heap.size, oA a)] wr) (fun x3 x8 wr => 4 - (intOf x8).toNat)
  case atStart => exact ⟨0, rfl, by omega, by simpa [strs, dots] using own_nil _ _ _, fun b h => by simp [Value.ownBlock] at h, B⟩
  case round =>
    obtain ⟨j, rfl, hj, ho, lo, bx⟩ := hrel
    have hsz : w.heap.size + 1 ≤ wr.heap.size := lt_of_obj (bx.all.get 0 (x := (w.heap.size, oA a)) rfl)
    by_cases hlt : j < 4
    · obtain ⟨x, hx, -, x0, x1⟩ := isA_getD Ha.out (j := 12 + j) (by omega)
      have c1 : wr.cell? ⟨w.heap.size, 12 + j, none⟩ = some (.int .u8 x) := (row_cell (bx.all.get 0 (x := (w.heap.size, oA a)) rfl)).trans (by rw [List.getElem?_toArray]; exact nums_get hx)
      have ht : Hid (strs (dots a (j + 1)) = strs (dots a j) ++ [.string ⟨(Lib.itoa x).toArray⟩]) := Lib.hid (by
        unfold strs dots
        rw [take_snoc (y := x) (by rw [List.getElem?_drop]; exact hx)]; simp)
      replace hx := Lib.hid hx
      go_wp2_with (first | (go_at_call 117; refine (itoa_call (bx.env E) (by omega) (by omega)).mono ?_; rintro e w1 ⟨rfl, bel1⟩) | (at_builtin; refine wpList_app1 rfl (.tmp 12) (.tmp 16) 23 rfl Tryz.underlying23 Tryz.info9 rfl (by decide) (by decide) [.string ⟨(Lib.itoa x).toArray⟩] rfl (by intro z hz; simp at hz; subst hz; rfl) rfl (own_below ho bel1 (own_lt ho)) rfl (by omega) ?_; intro v' w2 ho2 hn2 hf2))
      have bx1 := bx.go bel1
      refine ⟨⟨j + 1, by congr 1, by omega, by rw [ht.out]; exact ho2, lo.next hn2 (Nat.le_trans hsz bel1.size), bx1.fr hf2 (fun x hx hb => by
        simp at hx; subst hx
        have h2 : w.heap.size + 1 ≤ w.heap.size := lo _ hb
        omega) (fun b hb => by have := lo _ hb; omega)⟩, by simp [intOf]; omega⟩
    · obtain rfl : j = 4 := by omega
      have hd : (dots a 4).length = 4 := by
        obtain ⟨x, y, z, t, h, -⟩ := last4 Ha.out
        unfold dots; rw [h]; rfl
      have hj2 : Lib.join ((dots a 4).map (·.data.toList)) [46] = dottedS a := by
        obtain ⟨x, y, z, t, h, -⟩ := last4 Ha.out
        unfold dots dottedS; rw [h]; rfl
      have hlen : (dottedS a).length ≤ 1000 := by
        rw [dotted_getD Ha.out]
        obtain ⟨x, -, hx, x0, x1⟩ := isA_getD Ha.out (j := 12) (by decide)
        obtain ⟨y, -, hy, y0, y1⟩ := isA_getD Ha.out (j := 13) (by decide)
        obtain ⟨z, -, hz, z0, z1⟩ := isA_getD Ha.out (j := 14) (by decide)
        obtain ⟨t, -, ht, t0, t1⟩ := isA_getD Ha.out (j := 15) (by decide)
        rw [hx, hy, hz, ht]
        have lx := itoa_len x x0 (by omega)
        have ly := itoa_len y y0 (by omega)
        have lz := itoa_len z z0 (by omega)
        have lt := itoa_len t t0 (by omega)
        simp; omega
      have hjc := join_call (xs := dots a 4) (sep := ⟨#[46]⟩) hd ho (by omega) (by show (Lib.join _ [46]).length ≤ _; rw [hj2]; omega)
      rw [show (⟨#[46]⟩ : ByteArray).data.toList = [46] from rfl, hj2] at hjc
      clear hd hj2 hlen
      go_wp2_with (go_at_call 114; refine hjc.mono ?_; rintro e w1 ⟨rfl, bel1⟩)
      go_ret
      exact ⟨rfl, (bx.go bel1).bel⟩
end Go.Proofs.YtnljjlaececnkaaGreatDoor
/-
  The parts of sync.Once: the lock, what is stored at the end. Condition: the lock is free, nobody waits.
-/
namespace Go.Proofs.YtnljjlaececnkaaGreatDoor
open Go.RowKit
set_option linter.unusedVariables false
set_option linter.unusedSimpArgs false
namespace Once
theorem disable (w : World) : (callFunc 316 #[]).run Tryz.prog w = .ok (.value (.tuple #[])) w := run_call_mark0 Tryz.func316 (by kernel_rfl) (by kernel_rfl) (by kernel_rfl) .disable (by kernel_rfl) w
theorem enable (w : World) : (callFunc 318 #[]).run Tryz.prog w = .ok (.value (.tuple #[])) w := run_call_mark0 Tryz.func318 (by kernel_rfl) (by kernel_rfl) (by kernel_rfl) .enable (by kernel_rfl) w
theorem acquire (a : Addr) (w : World) : (callFunc 319 #[.pointer (some a)]).run Tryz.prog w = .ok (.value (.tuple #[])) w := run_call_marked Tryz.func319 (by kernel_rfl) (by kernel_rfl) (by kernel_rfl) .acquire (by kernel_rfl) a w
theorem releaseMerge (a : Addr) (w : World) : (callFunc 321 #[.pointer (some a)]).run Tryz.prog w = .ok (.value (.tuple #[])) w := run_call_marked Tryz.func321 (by kernel_rfl) (by kernel_rfl) (by kernel_rfl) .releaseMerge (by kernel_rfl) a w
theorem store_deferred (a : Addr) (x : Value) (u : FrameMode) (w : World) (hc : w.cell? a = some x) (hz : w.frozen? a = false) :
    CallsD Tryz.prog 298 #[.pointer (some a), .bool true] u w fun e u' w' => u' = u ∧ (e = .returned (.tuple #[]) ∧ w' = w.drew.setCell a (.int .u32 1)) := by
  have hc' : w.drew.cell? a = some x := by go_simp
  have hz' : w.drew.frozen? a = false := by go_simp
  have hst := run_call_store (P := Tryz.prog) Tryz.func312 (by kernel_rfl) (by kernel_rfl) (by kernel_rfl) (by kernel_rfl) (k := .u32) (y := 1) hc' hz'
  go_enter_d Tryz.func298, Tryz.ntmps298
  go_wp2
  go_region_calls
  all_goals (go_end0; exact ⟨rfl, rfl⟩)
set_option maxRecDepth 100000 in
set_option maxHeartbeats 1600000 in
theorem unlock_deferred (a : Addr) (u : FrameMode) (w : World) (hc : w.cell? a = some (.int .i32 1)) (hz : w.frozen? a = false) :
    CallsD Tryz.prog 297 #[.pointer (some a)] u w fun e u' w' => u' = u ∧ (e = .returned (.tuple #[]) ∧ w' = w.setCell a (.int .i32 0)) := by
  have hd := disable
  have he := enable
  have hr := releaseMerge
  have hadd := run_call_add (P := Tryz.prog) Tryz.func322 (by kernel_rfl) (by kernel_rfl) (by kernel_rfl) .i32 (by kernel_rfl) (y := -1) (s := 0) hc hz (by simp [go_sem]; rfl)
  have hcv := run_convert_to_unsafe (P := Tryz.prog) (src := 383) (dst := 310) Tryz.underlying383 Tryz.underlying310 (by kernel_rfl) hc
  go_enter_d Tryz.func297, Tryz.ntmps297
  go_wp2
  go_end0
  go_wp2
  go_end0
  exact ⟨rfl, rfl⟩
set_option maxRecDepth 100000 in
set_option maxHeartbeats 1600000 in
theorem lock_free (a : Addr) (w : World) (hc : w.cell? a = some (.int .i32 0)) (hz : w.frozen? a = false) :
    Calls Tryz.prog 296 #[.pointer (some a)] w fun e w' => e = .returned (.tuple #[]) ∧ w' = w.setCell a (.int .i32 1) := by
  have hd := disable
  have he := enable
  have ha := acquire
  have hcas := run_call_cas_hit (P := Tryz.prog) Tryz.func317 (by kernel_rfl) (by kernel_rfl) (by kernel_rfl) .i32 (by kernel_rfl) (y := 1) hc hz
  have hc' : (w.setCell a (.int .i32 1)).cell? a = some (.int .i32 1) := World.cell?_setCell_same w a _ hc
  have hcv := run_convert_to_unsafe (P := Tryz.prog) (src := 383) (dst := 310) Tryz.underlying383 Tryz.underlying310 (by kernel_rfl) hc'
  go_enter Tryz.func296, Tryz.ntmps296
  go_wp2
  first | go_end0 | (simp only [Exit.inBlock, Exit.then]; refine bodyPost_ret (results_none rfl _ _ _) rfl ?_) | refine bodyPost_ret (results_none rfl _ _ _) rfl ?_
  go_wp2
  go_end0
  exact ⟨rfl, rfl⟩
end Once
end Go.Proofs.YtnljjlaececnkaaGreatDoor
/-
  The document's groups. Condition: a text is no longer than memory has room for.
-/
namespace Go.Proofs.YtnljjlaececnkaaGreatDoor
open Go.RowKit
set_option linter.unusedVariables false
set_option linter.unusedSimpArgs false
def nats (l : List Nat) : List Value := l.map (fun u : Nat => Value.int .i64 (Int.ofNat u))
def grpU (t : ByteArray) : Nat := (grpS t).getD 0
/-- The groups of a text. -/
def grpN (s : ByteArray) : Option (List Nat) := if s.size = 0 then some [] else if (cutB 58 s).all (fun t => (grpS t).isSome) then some ((cutB 58 s).map grpU) else none
def GrpNR (w : World) (s : ByteArray) (e : Ending) (W' : World) : Prop := ∃ v, e = .returned (.tuple #[v, .bool (grpN s).isSome]) ∧ W'.ownsRow 0 3 1 v ((grpN s).getD []).length (nats ((grpN s).getD [])) ∧ Lo w.heap.size v
theorem GrpNR.no {w W' : World} {s : ByteArray} (h : grpN s = none) : GrpNR w s (.returned (.tuple #[.slice none 0 0, .bool false])) W' := ⟨_, by rw [h]; rfl, by rw [h]; exact own_nil _ _ _, fun b hb => by simp [Value.ownBlock] at hb⟩
end Go.Proofs.YtnljjlaececnkaaGreatDoor
/-
  The document's four numbers. Condition: a text is no longer than memory has room for.
-/
namespace Go.Proofs.YtnljjlaececnkaaGreatDoor
open Go.RowKit
set_option linter.unusedVariables false
set_option linter.unusedSimpArgs false
end Go.Proofs.YtnljjlaececnkaaGreatDoor
/-
  Plain laws of eight groups. No condition.
-/
namespace Go.Proofs.YtnljjlaececnkaaGreatDoor
open Go.RowKit
set_option linter.unusedVariables false
set_option linter.unusedSimpArgs false
end Go.Proofs.YtnljjlaececnkaaGreatDoor
/-
  The document's eight groups, a text without a gap. Condition: a text is no longer than memory has room for.
-/
namespace Go.Proofs.YtnljjlaececnkaaGreatDoor
open Go.RowKit
set_option linter.unusedVariables false
set_option linter.unusedSimpArgs false
end Go.Proofs.YtnljjlaececnkaaGreatDoor
/-
  The document's eight groups: what is laid. Condition: a text is no longer than memory has room for.
-/
namespace Go.Proofs.YtnljjlaececnkaaGreatDoor
open Go.RowKit
set_option linter.unusedVariables false
set_option linter.unusedSimpArgs false
theorem heap_alloc_keep (w : World) (o : Obj) {r : Nat} (h : r < w.heap.size) : (w.alloc o).heap[r]? = w.heap[r]? := by
  unfold World.alloc
  simp [Array.getElem?_push, Nat.ne_of_lt h]
end Go.Proofs.YtnljjlaececnkaaGreatDoor
/-
  strings.NewReplacer at the four texts of a word's quotation. No condition.
-/
namespace Go.Proofs.YtnljjlaececnkaaGreatDoor
open Go.RowKit
set_option linter.unusedVariables false
set_option linter.unusedSimpArgs false
def RL : List ByteArray := [⟨#[34]⟩, ⟨#[92, 34]⟩, ⟨#[92]⟩, ⟨#[92, 92]⟩]
/-- A Replacer. -/
def oRep (d st : Int) (r v : Value) : Obj := .cells #[.int .u32 d, .int .i32 st, .int .u32 0, r, v] 275 (0, 0)
/-- What begins with these cells. -/
def RowIn (o : Obj) (cs : List Value) : Prop := ∃ xs t fz, o = .cells xs t fz ∧ ∀ (j : Nat) v, cs[j]? = some v → xs[j]? = some v
theorem RowIn.cell {o : Obj} {cs : List Value} (h : RowIn o cs) {W : World} {k : Nat} (hk : W.heap[k]? = some o) {j : Nat} {v : Value} (hj : cs[j]? = some v) : W.cell? ⟨k, j, none⟩ = some v := by
  obtain ⟨xs, t, fz, rfl, hc⟩ := h
  unfold World.cell?
  simp only [hk]
  exact hc j v hj
theorem own_obj {W : World} {e sz n : Nat} {A : Option Addr} {m c : Nat} {xs : List Value} (h : W.ownsRow 0 e sz (.slice A m c) n xs) (hn : 0 < n) (hx : 0 < xs.length) : ∃ k o, A = some ⟨k, 0, none⟩ ∧ m = n ∧ W.heap[k]? = some o ∧ RowIn o xs := by
  obtain ⟨k, rfl, hm, hk, hcell, -, -⟩ := own_at h hn
  have h0 := hcell 0 _ (List.getElem?_eq_getElem hx)
  have hc : ∃ xs' t fz, W.heap[k]? = some (.cells xs' t fz) := by
    unfold World.cell? at h0
    split at h0
    · rename_i c' e' fz heq; exact ⟨c', e', fz, heq⟩
    · cases h0
  obtain ⟨xs', t, fz, heq⟩ := hc
  refine ⟨k, _, rfl, hm, heq, xs', t, fz, rfl, fun j v hj => ?_⟩
  have := hcell j v hj
  unfold World.cell? at this
  simp only [heq] at this
  exact this
set_option maxRecDepth 100000 in
set_option maxHeartbeats 1600000 in
theorem newrep_any {W : World} {k0 : Nat} (h : W.heap[k0]? = some (.cells (strs RL).toArray 9)) : Calls Tryz.prog 170 #[.slice (some ⟨k0, 0, none⟩) 4 4] W fun e w' => (∃ b k c ok, e = .returned (.pointer (some ⟨b, 0, none⟩)) ∧ W.heap.size ≤ k ∧ k < b ∧ w'.heap[b]? = some (oRep 0 0 .nilIface (.slice (some ⟨k, 0, none⟩) 4 c)) ∧ w'.heap[k]? = some ok ∧ RowIn ok (strs RL)) ∧ Below W.heap.size W w' := by
  have hrow := Row.box (n := 4) (sz := 1) h rfl (by decide)
  replace h := Lib.hid h
  go_enter Tryz.func170, Tryz.ntmps170
  go_wp2_with (at_builtin; refine wpList_appR rfl (.const (.slice none 0 0)) (.tmp 8) 23 rfl Tryz.underlying23 Tryz.info9 rfl (by decide) (by decide) rfl (own_nil _ _ _) rfl hrow (strs_one _) (by decide) ?_; intro v w1 ho hn hf; rw [Nat.zero_add, List.nil_append] at ho; have lo1 : Lo W.heap.size v := Lo.next (show Lo W.heap.size (.slice none 0 0) from fun b h => by simp [Value.ownBlock] at h) hn (Nat.le_refl _); have bf : Below W.heap.size W w1 := hf.belowB (show Lo W.heap.size (.slice none 0 0) from fun b h => by simp [Value.ownBlock] at h) (Nat.le_refl _); obtain ⟨A, c, rfl, hc1, hc2⟩ := own_slice ho; obtain ⟨k, ok, rfl, -, hk, hki⟩ := own_obj ho (by decide) (by decide); have hkl := lo1 k rfl; replace hk := Lib.hid hk)
  go_ret
  refine ⟨⟨w1.heap.size, k, c, ok, rfl, hkl, lt_of_obj hk.out, box1 w1 _, ?_, hki⟩, bf.alloc bf.size _⟩
  exact (heap_alloc_keep w1 _ (lt_of_obj hk.out)).trans hk.out
end Go.Proofs.YtnljjlaececnkaaGreatDoor
