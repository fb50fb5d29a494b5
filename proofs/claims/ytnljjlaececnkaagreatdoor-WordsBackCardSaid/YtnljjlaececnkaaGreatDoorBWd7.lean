/-
  Merged texts (EE, EF, FA, FB, FC, GP, GQ, GA, FD, FE, GC, FG, FH, GD), part 7 of 8. Conditions: each part's own, told at its head.
-/
import Derived.Test.YtnljjlaececnkaaGreatDoorBWd1
import Derived.Test.YtnljjlaececnkaaGreatDoorBWd2
import Derived.Test.YtnljjlaececnkaaGreatDoorBWd3
import Derived.Test.YtnljjlaececnkaaGreatDoorBWd4
import Derived.Test.YtnljjlaececnkaaGreatDoorBWd5
import Derived.Test.YtnljjlaececnkaaGreatDoorBWd6
import Derived.Laws.CopyOwn
import Derived.Shelf.Strings.Builder1
/-
  How many bytes a byteStringReplacer lays; is anything to be done? No condition.
-/
namespace Go.Proofs.YtnljjlaececnkaaGreatDoor
open Go.RowKit
set_option linter.unusedVariables false
set_option linter.unusedSimpArgs false
def escB (c : UInt8) : List UInt8 := if c = 34 then [92, 34] else if c = 92 then [92, 92] else [c]
/-- A text with its quotation marks and strokes marked. -/
def escL (l : List UInt8) : List UInt8 := l.flatMap escB
theorem esc_len : ∀ l : List UInt8, (escL l).length = l.length + l.count 92 + l.count 34
  | [] => rfl
  | c :: l => by
    have ih := esc_len l
    unfold escL at *
    rw [List.flatMap_cons, List.length_append, ih, List.count_cons, List.count_cons]
    unfold escB
    by_cases h1 : c = 34
    · subst h1; simp; omega
    · by_cases h2 : c = 92
      · subst h2; simp; omega
      · have e1 : (c == 34) = false := by simpa using h1
        have e2 : (c == 92) = false := by simpa using h2
        rw [if_neg h1, if_neg h2, e1, e2]; simp; omega
theorem esc_same : ∀ l : List UInt8, l.count 92 = 0 → l.count 34 = 0 → escL l = l
  | [], _, _ => rfl
  | c :: l, h1, h2 => by
    rw [List.count_cons] at h1 h2
    have n1 : c ≠ 92 := fun e => by subst e; simp at h1
    have n2 : c ≠ 34 := fun e => by subst e; simp at h2
    have ih := esc_same l (by omega) (by omega)
    unfold escL at *
    rw [List.flatMap_cons, ih]
    unfold escB
    rw [if_neg n2, if_neg n1]; rfl
theorem count_take {l : List UInt8} {i : Nat} {x y : UInt8} (h : l[i]? = some x) : (l.take (i + 1)).count y = (l.take i).count y + if x = y then 1 else 0 := by
  rw [take_snoc h, List.count_append, List.count_singleton]
  by_cases e : x = y
  · rw [if_pos e]; simp [e]
  · rw [if_neg e]; simp [e]
theorem str_nums (l : List UInt8) : strOfNums (l.map fun b => (b.toNat : Int)) = ⟨l.toArray⟩ := by
  unfold strOfNums
  congr 1
  rw [List.map_map]
  congr 1
  refine (List.map_congr_left fun b hb => ?_).trans (List.map_id _)
  simp
theorem info5z : (Tryz.prog.info? 5).map (fun i => (i.zero, i.size, i.bytes)) = some (some (.int .u8 0), 1, 1) := by kernel_rfl
theorem cut150 {k n j : Nat} (hj : j < n) (W : World) : (Instr.slice 150 (.slice (some ⟨k, 0, none⟩) n n) (some (.int .i64 (j : Int))) none none).run Tryz.prog W = .ok (.slice (some ⟨k, j, none⟩) (n - j) (n - j)) W := by
  obtain ⟨i, hi, hz0, hz1, hz2⟩ := info_parts info5z
  have hel : Tryz.prog.elem 150 = 5 := by kernel_rfl
  rw [run_slice_l W 150 (some ⟨k, 0, none⟩) n n (by rw [hel]; exact Tryz.underlying150) .i64 (j : Int) (by omega) (by omega)]
  simp [sizeOf, typeInfo, hel, hi, hz1, sliced, Result.andThen]
  rw [if_neg (by omega)]
  simp [Addr.add]
  intro h; rw [h]
theorem esc_take {l : List UInt8} {i : Nat} {c : UInt8} (h : l[i]? = some c) : escL (l.take (i + 1)) = escL (l.take i) ++ escB c := by
  rw [take_snoc h]; unfold escL; rw [List.flatMap_append]; simp
theorem esc_room {l : List UInt8} (i : Nat) : (escL (l.take i)).length ≤ (escL l).length := by
  have : escL l = escL (l.take i) ++ escL (l.drop i) := by unfold escL; rw [← List.flatMap_append, List.take_append_drop]
  rw [this, List.length_append]; omega
def byV (l : List UInt8) : List Value := l.map fun b => Value.int .u8 b.toNat
theorem byV_app (l m : List UInt8) : byV (l ++ m) = byV l ++ byV m := List.map_append
theorem byV_len (l : List UInt8) : (byV l).length = l.length := List.length_map _
theorem wpList_make150 {ops : Array Oper} {rest : List Oper} {o : Oper} {a : Act} {w : World} {Q : Exit → Act → World → Prop} (hg : o.guard = none) (x y : Operand) (ho : o.op = .makeSlice 150 x y) {n : Nat} (hx : a.eval x = .int .i64 n) (hy : a.eval y = .int .i64 n) (hn : n ≤ 140737488355328)
    (h : ∀ (w' : World) (k : Nat) (xs : List Value), xs.length = n → w'.heap[k]? = some (.cells xs.toArray 5 (0, 0)) → w.heap.size ≤ k → Below w.heap.size w w' → wpList Tryz.prog ops Q rest (a.put o.dst (.slice (some ⟨k, 0, none⟩) n n)) w') : wpList Tryz.prog ops Q (o :: rest) a w := by
  have h5 := info5z
  cases hi : Tryz.prog.info? 5 with
  | none => rw [hi] at h5; cases h5
  | some i =>
  rw [hi] at h5
  simp only [Option.map_some, Option.some.injEq, Prod.mk.injEq] at h5
  obtain ⟨hz, hs, hb⟩ := h5
  have hr := run_make (P := Tryz.prog) w 150 5 i (.int .u8 0) Tryz.underlying150 hi hz .i64 .i64 n n (by omega) (Int.le_refl _) (by rw [hb]; omega) (by omega)
  rw [Int.toNat_natCast] at hr
  have hrun : (execOp a.eval o).run Tryz.prog w = .ok (.value (.slice (some ⟨w.heap.size, 0, none⟩) n n)) (w.alloc (.cells (madeCells (Value.int .u8 0).cells (n * i.size)) 5)) := by
    unfold execOp
    simp only [ho, hx, hy, Sem.run_bind, hr, Sem.run_pure, Result.andThen_ok]
  exact wpList_run hg hrun (h _ w.heap.size (madeCells (Value.int .u8 0).cells (n * i.size)).toList (by rw [Array.length_toList, size_madeCells, hs, Nat.mul_one]) (by rw [Array.toArray_toList]; exact box1 w _) (Nat.le_refl _) ((Below.refl _ _).alloc (Nat.le_refl _) _))
section
variable {w : World} {g ka kb kt ca cb ct : Nat} {ot : Obj}
set_option maxRecDepth 100000 in
set_option maxHeartbeats 3200000 in
/-- The first half: from the start to the question whether anything is to be done. -/
theorem rep_head {s : ByteArray} (hs : s.size < 4294967281) {c92 c34 : Nat} (h92 : s.data.toList.count 92 = c92) (h34 : s.data.toList.count 34 = c34)
    (hg : w.heap[g]? = some (oBS (.slice (some ⟨ka, 0, none⟩) 2 ca) (.slice (some ⟨kb, 0, none⟩) 2 cb) (.slice (some ⟨kt, 0, none⟩) 2 ct))) (ht : w.heap[kt]? = some ot) (rt : RowIn ot (strs [⟨#[92]⟩, ⟨#[34]⟩]))
    (hka : ∃ oa, w.heap[ka]? = some oa ∧ RowIn oa [.int .u8 92, .int .u8 34]) (hkb : ∃ ob, w.heap[kb]? = some ob ∧ RowIn ob [.int .u8 92, .int .u8 92])
    (hcn : c92 ≤ s.size ∧ c34 ≤ s.size) {N : Nat} (hN : s.size + c92 + c34 = N) : Calls Tryz.prog 361 #[.pointer (some ⟨g, 0, none⟩), .string s] w fun e w' => e = .returned (.string ⟨(escL s.data.toList).toArray⟩) ∧ Below w.heap.size w w' := by
  have hlenE : (escL s.data.toList).length = N := by rw [esc_len, len_data, h92, h34]; exact hN
  have hsame : c92 + c34 = 0 → (⟨(escL s.data.toList).toArray⟩ : ByteArray) = s := fun h => by rw [esc_same _ (by omega) (by omega)]
  replace hsame := Lib.hid hsame
  replace hlenE := Lib.hid hlenE
  have hgl := lt_of_obj hg
  have htl := lt_of_obj ht
  have B := Bz.start w
  have hn92 := fun W => Tryz.strings_Count_one s 92 W
  have hn34 := fun W => Tryz.strings_Count_one s 34 W
  have e92 : Lib.countByte s.data.toList 92 = c92 := h92
  have e34 : Lib.countByte s.data.toList 34 = c34 := h34
  rw [e92] at hn92
  rw [e34] at hn34
  have cT : w.cell? ⟨g, 256, none⟩ = some (.slice (some ⟨kt, 0, none⟩) 2 ct) := (row_cell hg).trans (by rw [List.getElem?_toArray, bs_get]; rfl)
  replace hg := Lib.hid hg
  replace ht := Lib.hid ht
  replace h92 := Lib.hid h92
  replace h34 := Lib.hid h34
  clear e92 e34
  obtain ⟨c1, c2⟩ := hcn
  have hNle : N ≤ 3 * s.size := by omega
  replace hN := Lib.hid hN
  go_enter Tryz.func361, Tryz.ntmps361
  go_upto_if 26 with fail
  go_cut [5, 6] from 8 to 80 (fun x5 x6 W => x5 = .int .i64 (N : Int) ∧ x6 = .bool (decide (0 < c92 + c34)) ∧ Bz w [] W)
  case first =>
    by_cases h16 : 16 ≤ s.size
    · have hd : decide ((16 : Int) ≤ s.size) = true := decide_eq_true (by omega)
      simp only [hd]
      go_wp2_with fail
      go_loopw [5, 6, 32] (fun x5 x6 x32 wr => Bz w [] wr ∧ ((x32 = .int .i64 0 ∧ x5 = .int .i64 s.size ∧ x6 = .bool false) ∨ (x32 = .int .i64 1 ∧ x5 = .int .i64 ((s.size + c92 : Nat) : Int) ∧ x6 = .bool (decide (0 < c92))) ∨ (x32 = .int .i64 2 ∧ x5 = .int .i64 ((s.size + c92 + c34 : Nat) : Int) ∧ x6 = .bool (decide (0 < c92 + c34))))) (fun _ _ x32 wr => (2 - intOf x32).toNat)
      case atStart => exact ⟨B, .inl ⟨rfl, rfl, rfl⟩⟩
      case round =>
        obtain ⟨bx, ⟨rfl, rfl, rfl⟩ | ⟨rfl, rfl, rfl⟩ | ⟨rfl, rfl, rfl⟩⟩ := hrel
        · have q0 : wr.cell? ⟨kt, 0, none⟩ = some (.string ⟨#[92]⟩) := (Below.cell (p := ⟨kt, 0, none⟩) bx.bel htl).trans (rt.cell ht.out rfl)
          have e8 : ((⟨#[92]⟩ : ByteArray)[0]'(by decide)).toNat = 92 := rfl
          by_cases hz : c92 = 0
          · have hz1 : ((c92 : Int) != 0) = false := by simp; omega
            replace hz := Lib.hid hz
            go_wp2_with (go_at_call 203; with_reducible refine (hn92 _).mono ?_; rintro e w' ⟨rfl, rfl⟩)
            go_roundw
            case rel => exact ⟨bx, .inr (.inl ⟨rfl, by rw [hz.out]; congr 1, by rw [hz.out]; rfl⟩)⟩
            case measure => simp [intOf]
          · have hz1 : ((c92 : Int) != 0) = true := by simp; omega
            have w1 : IntKind.i64.wrap (c92 : Int) = c92 := IntWalk.i64_in _ (by omega)
            have w2 : IntKind.i64.wrap ((s.size : Int) + c92) = ((s.size + c92 : Nat) : Int) := (IntWalk.i64_in _ (by omega)).trans (by omega)
            replace hz := Lib.hid hz
            go_wp2_with (go_at_call 203; with_reducible refine (hn92 _).mono ?_; rintro e w' ⟨rfl, rfl⟩)
            refine wp_region_C (C := Bz w []) (by kernel_rfl) (by kernel_rfl) (bx.drew) ?_
            refine wpQuiet_hide ?_
            intro lq hlq
            refine wpQuiet_step_h hlq ?_
            clear hlq lq
            intro K lq hlq hK
            refine wanted_go (by rfl) ?_
            refine ⟨?_, fun W hW => ?_, ?_⟩
            rotate_left
            · skip
              go_simp
              with_reducible rfl
            refine hK _ ?_
            clear hK K
            (try simp only [Act.put, List.setIfInBounds_toArray, List.set_cons_zero, List.set_cons_succ])
            refine wpQuiet_step_h hlq ?_
            clear hlq lq
            intro K lq hlq hK
            refine wanted_go (by rfl) ?_
            refine ⟨?_, fun W hW => ?_, ?_⟩
            rotate_left
            · skip
              go_simp
              with_reducible rfl
            refine hK _ ?_
            clear hK K
            (try simp only [Act.put, List.setIfInBounds_toArray, List.set_cons_zero, List.set_cons_succ])
            refine wpQuiet_step_h hlq ?_
            clear hlq lq
            intro K lq hlq hK
            refine wanted_go (by rfl) ?_
            refine ⟨?_, fun W hW => ?_, ?_⟩
            rotate_left
            · skip
              go_simp
              with_reducible rfl
            refine hK _ ?_
            clear hK K
            (try simp only [Act.put, List.setIfInBounds_toArray, List.set_cons_zero, List.set_cons_succ])
            refine wpQuiet_step_h hlq ?_
            clear hlq lq
            intro K lq hlq hK
            refine wanted_go (by rfl) ?_
            refine ⟨?_, fun W hW => ?_, ?_⟩
            rotate_left
            · skip
              go_simp
              with_reducible rfl
            refine hK _ ?_
            clear hK K
            (try simp only [Act.put, List.setIfInBounds_toArray, List.set_cons_zero, List.set_cons_succ])
            refine wpQuiet_step_h hlq ?_
            clear hlq lq
            intro K lq hlq hK
            refine wanted_go (by rfl) ?_
            refine ⟨?_, fun W hW => ?_, ?_⟩
            rotate_left
            · skip
              go_simp
              with_reducible rfl
            refine hK _ ?_
            clear hK K
            (try simp only [Act.put, List.setIfInBounds_toArray, List.set_cons_zero, List.set_cons_succ])
            refine wpQuiet_step_h hlq ?_
            clear hlq lq
            intro K lq hlq hK
            refine wanted_go (by rfl) ?_
            refine ⟨?_, fun W hW => ?_, ?_⟩
            rotate_left
            · skip
              go_simp
              with_reducible rfl
            refine hK _ ?_
            clear hK K
            (try simp only [Act.put, List.setIfInBounds_toArray, List.set_cons_zero, List.set_cons_succ])
            refine wpQuiet_step_h hlq ?_
            clear hlq lq
            intro K lq hlq hK
            refine wanted_go (by rfl) ?_
            refine ⟨?_, fun W hW => ?_, ?_⟩
            rotate_left
            · skip
              go_simp
              with_reducible rfl
            refine hK _ ?_
            clear hK K
            (try simp only [Act.put, List.setIfInBounds_toArray, List.set_cons_zero, List.set_cons_succ])
            refine wpQuiet_step_h hlq ?_
            clear hlq lq
            intro K lq hlq hK
            refine wanted_go (by rfl) ?_
            refine ⟨?_, fun W hW => ?_, ?_⟩
            rotate_left
            · skip
              go_simp
              with_reducible rfl
            refine hK _ ?_
            clear hK K
            (try simp only [Act.put, List.setIfInBounds_toArray, List.set_cons_zero, List.set_cons_succ])
            refine wpQuiet_step_h hlq ?_
            clear hlq lq
            intro K lq hlq hK
            refine wanted_go (by rfl) ?_
            refine ⟨.slice (some ⟨kb, 0, none⟩) 2 cb, fun W hW => ?_, ?_⟩
            · skip
              exact quiet_load 150 _ rfl rfl (loadVar_slice Tryz.underlying150 ((row_cell (Below.box hg.out hW.bel hgl)).trans (by rw [List.getElem?_toArray, bs_get]; rfl)))
            refine hK _ ?_
            clear hK K
            (try simp only [Act.put, List.setIfInBounds_toArray, List.set_cons_zero, List.set_cons_succ])
            refine wpQuiet_step_h hlq ?_
            clear hlq lq
            intro K lq hlq hK
            refine wanted_go (by rfl) ?_
            refine ⟨?_, fun W hW => ?_, ?_⟩
            rotate_left
            · skip
              go_simp
              with_reducible rfl
            refine hK _ ?_
            clear hK K
            (try simp only [Act.put, List.setIfInBounds_toArray, List.set_cons_zero, List.set_cons_succ])
            refine wpQuiet_step_h hlq ?_
            clear hlq lq
            intro K lq hlq hK
            refine wanted_go (by rfl) ?_
            refine ⟨?_, fun W hW => ?_, ?_⟩
            rotate_left
            · skip
              go_simp
              with_reducible rfl
            refine hK _ ?_
            clear hK K
            (try simp only [Act.put, List.setIfInBounds_toArray, List.set_cons_zero, List.set_cons_succ])
            refine wpQuiet_step_h hlq ?_
            clear hlq lq
            intro K lq hlq hK
            refine wanted_go (by rfl) ?_
            refine ⟨?_, fun W hW => ?_, ?_⟩
            rotate_left
            · skip
              go_simp
              with_reducible rfl
            refine hK _ ?_
            clear hK K
            (try simp only [Act.put, List.setIfInBounds_toArray, List.set_cons_zero, List.set_cons_succ])
            refine wpQuiet_step_h hlq ?_
            clear hlq lq
            intro K lq hlq hK
            refine wanted_go (by rfl) ?_
            refine ⟨?_, fun W hW => ?_, ?_⟩
            rotate_left
            · skip
              go_simp
              with_reducible rfl
            refine hK _ ?_
            clear hK K
            (try simp only [Act.put, List.setIfInBounds_toArray, List.set_cons_zero, List.set_cons_succ])
            refine wpQuiet_step_h hlq ?_
            clear hlq lq
            intro K lq hlq hK
            refine wanted_go (by rfl) ?_
            refine ⟨?_, fun W hW => ?_, ?_⟩
            rotate_left
            · skip
              go_simp
              with_reducible rfl
            refine hK _ ?_
            clear hK K
            (try simp only [Act.put, List.setIfInBounds_toArray, List.set_cons_zero, List.set_cons_succ])
            refine wpQuiet_nil_h hlq ?_
            clear hlq lq bx
            intro V1 hV2
            go_wp2_with fail
            go_roundw
            case rel => exact ⟨hV2, .inr (.inl ⟨rfl, by congr 1; rw [show IntKind.i64.wrap 1 = 1 from rfl, Int.mul_one, w1, w2], by rw [decide_eq_true (Nat.pos_of_ne_zero hz.out)]⟩)⟩
            case measure => simp [intOf]
        · have q0 : wr.cell? ⟨kt, 1, none⟩ = some (.string ⟨#[34]⟩) := (Below.cell (p := ⟨kt, 1, none⟩) bx.bel htl).trans (rt.cell ht.out rfl)
          have e8 : ((⟨#[34]⟩ : ByteArray)[0]'(by decide)).toNat = 34 := rfl
          by_cases hz : c34 = 0
          · have hz1 : ((c34 : Int) != 0) = false := by simp; omega
            replace hz := Lib.hid hz
            go_wp2_with (go_at_call 203; with_reducible refine (hn34 _).mono ?_; rintro e w' ⟨rfl, rfl⟩)
            go_roundw
            case rel => exact ⟨bx, .inr (.inr ⟨rfl, by rw [hz.out]; congr 1, by rw [hz.out]; rfl⟩)⟩
            case measure => simp [intOf]
          · have hz1 : ((c34 : Int) != 0) = true := by simp; omega
            have w1 : IntKind.i64.wrap (c34 : Int) = c34 := IntWalk.i64_in _ (by omega)
            have w2 : IntKind.i64.wrap ((s.size : Int) + c92 + c34) = ((s.size + c92 + c34 : Nat) : Int) := (IntWalk.i64_in _ (by omega)).trans (by omega)
            replace hz := Lib.hid hz
            go_wp2_with (go_at_call 203; with_reducible refine (hn34 _).mono ?_; rintro e w' ⟨rfl, rfl⟩)
            refine wp_region_C (C := Bz w []) (by kernel_rfl) (by kernel_rfl) (bx.drew) ?_
            refine wpQuiet_hide ?_
            intro lq hlq
            refine wpQuiet_step_h hlq ?_
            clear hlq lq
            intro K lq hlq hK
            refine wanted_go (by rfl) ?_
            refine ⟨?_, fun W hW => ?_, ?_⟩
            rotate_left
            · skip
              go_simp
              with_reducible rfl
            refine hK _ ?_
            clear hK K
            (try simp only [Act.put, List.setIfInBounds_toArray, List.set_cons_zero, List.set_cons_succ])
            refine wpQuiet_step_h hlq ?_
            clear hlq lq
            intro K lq hlq hK
            refine wanted_go (by rfl) ?_
            refine ⟨?_, fun W hW => ?_, ?_⟩
            rotate_left
            · skip
              go_simp
              with_reducible rfl
            refine hK _ ?_
            clear hK K
            (try simp only [Act.put, List.setIfInBounds_toArray, List.set_cons_zero, List.set_cons_succ])
            refine wpQuiet_step_h hlq ?_
            clear hlq lq
            intro K lq hlq hK
            refine wanted_go (by rfl) ?_
            refine ⟨?_, fun W hW => ?_, ?_⟩
            rotate_left
            · skip
              go_simp
              with_reducible rfl
            refine hK _ ?_
            clear hK K
            (try simp only [Act.put, List.setIfInBounds_toArray, List.set_cons_zero, List.set_cons_succ])
            refine wpQuiet_step_h hlq ?_
            clear hlq lq
            intro K lq hlq hK
            refine wanted_go (by rfl) ?_
            refine ⟨?_, fun W hW => ?_, ?_⟩
            rotate_left
            · skip
              go_simp
              with_reducible rfl
            refine hK _ ?_
            clear hK K
            (try simp only [Act.put, List.setIfInBounds_toArray, List.set_cons_zero, List.set_cons_succ])
            refine wpQuiet_step_h hlq ?_
            clear hlq lq
            intro K lq hlq hK
            refine wanted_go (by rfl) ?_
            refine ⟨?_, fun W hW => ?_, ?_⟩
            rotate_left
            · skip
              go_simp
              with_reducible rfl
            refine hK _ ?_
            clear hK K
            (try simp only [Act.put, List.setIfInBounds_toArray, List.set_cons_zero, List.set_cons_succ])
            refine wpQuiet_step_h hlq ?_
            clear hlq lq
            intro K lq hlq hK
            refine wanted_go (by rfl) ?_
            refine ⟨?_, fun W hW => ?_, ?_⟩
            rotate_left
            · skip
              go_simp
              with_reducible rfl
            refine hK _ ?_
            clear hK K
            (try simp only [Act.put, List.setIfInBounds_toArray, List.set_cons_zero, List.set_cons_succ])
            refine wpQuiet_step_h hlq ?_
            clear hlq lq
            intro K lq hlq hK
            refine wanted_go (by rfl) ?_
            refine ⟨?_, fun W hW => ?_, ?_⟩
            rotate_left
            · skip
              go_simp
              with_reducible rfl
            refine hK _ ?_
            clear hK K
            (try simp only [Act.put, List.setIfInBounds_toArray, List.set_cons_zero, List.set_cons_succ])
            refine wpQuiet_step_h hlq ?_
            clear hlq lq
            intro K lq hlq hK
            refine wanted_go (by rfl) ?_
            refine ⟨?_, fun W hW => ?_, ?_⟩
            rotate_left
            · skip
              go_simp
              with_reducible rfl
            refine hK _ ?_
            clear hK K
            (try simp only [Act.put, List.setIfInBounds_toArray, List.set_cons_zero, List.set_cons_succ])
            refine wpQuiet_step_h hlq ?_
            clear hlq lq
            intro K lq hlq hK
            refine wanted_go (by rfl) ?_
            refine ⟨.slice (some ⟨ka, 0, none⟩) 2 ca, fun W hW => ?_, ?_⟩
            · skip
              exact quiet_load 150 _ rfl rfl (loadVar_slice Tryz.underlying150 ((row_cell (Below.box hg.out hW.bel hgl)).trans (by rw [List.getElem?_toArray, bs_get]; rfl)))
            refine hK _ ?_
            clear hK K
            (try simp only [Act.put, List.setIfInBounds_toArray, List.set_cons_zero, List.set_cons_succ])
            refine wpQuiet_step_h hlq ?_
            clear hlq lq
            intro K lq hlq hK
            refine wanted_go (by rfl) ?_
            refine ⟨?_, fun W hW => ?_, ?_⟩
            rotate_left
            · skip
              go_simp
              with_reducible rfl
            refine hK _ ?_
            clear hK K
            (try simp only [Act.put, List.setIfInBounds_toArray, List.set_cons_zero, List.set_cons_succ])
            refine wpQuiet_step_h hlq ?_
            clear hlq lq
            intro K lq hlq hK
            refine wanted_go (by rfl) ?_
            refine ⟨?_, fun W hW => ?_, ?_⟩
            rotate_left
            · skip
              go_simp
              with_reducible rfl
            refine hK _ ?_
            clear hK K
            (try simp only [Act.put, List.setIfInBounds_toArray, List.set_cons_zero, List.set_cons_succ])
            refine wpQuiet_step_h hlq ?_
            clear hlq lq
            intro K lq hlq hK
            refine wanted_go (by rfl) ?_
            refine ⟨?_, fun W hW => ?_, ?_⟩
            rotate_left
            · skip
              go_simp
              with_reducible rfl
            refine hK _ ?_
            clear hK K
            (try simp only [Act.put, List.setIfInBounds_toArray, List.set_cons_zero, List.set_cons_succ])
            refine wpQuiet_step_h hlq ?_
            clear hlq lq
            intro K lq hlq hK
            refine wanted_go (by rfl) ?_
            refine ⟨?_, fun W hW => ?_, ?_⟩
            rotate_left
            · skip
              go_simp
              with_reducible rfl
            refine hK _ ?_
            clear hK K
            (try simp only [Act.put, List.setIfInBounds_toArray, List.set_cons_zero, List.set_cons_succ])
            refine wpQuiet_step_h hlq ?_
            clear hlq lq
            intro K lq hlq hK
            refine wanted_go (by rfl) ?_
            refine ⟨?_, fun W hW => ?_, ?_⟩
            rotate_left
            · skip
              go_simp
              with_reducible rfl
            refine hK _ ?_
            clear hK K
            (try simp only [Act.put, List.setIfInBounds_toArray, List.set_cons_zero, List.set_cons_succ])
            refine wpQuiet_nil_h hlq ?_
            clear hlq lq bx
            intro V1 hV2
            go_wp2_with fail
            go_roundw
            case rel => exact ⟨hV2, .inr (.inr ⟨rfl, by congr 1; rw [show IntKind.i64.wrap 1 = 1 from rfl, Int.mul_one, w1, w2], by rw [decide_eq_true (by have := Nat.pos_of_ne_zero hz.out; omega)]⟩)⟩
            case measure => simp [intOf]
        · go_wp2
          go_meet
          exact ⟨by rw [← hN.out], rfl, bx⟩
    · have hd : decide ((16 : Int) ≤ s.size) = false := decide_eq_false (by omega)
      have s1 := fun W => some_neq W ⟨kb, 0, none⟩ 2 cb
      have s2 := fun W => some_neq W ⟨ka, 0, none⟩ 2 ca
      have s3 := nil_neq
      go_wp2_with fail
      go_loop [5, 6, 10] (fun x5 x6 x10 => ∃ i a b : Nat, i ≤ s.size ∧ a ≤ i ∧ b ≤ i ∧ x10 = .int .i64 i ∧ x5 = .int .i64 ((s.size + a + b : Nat) : Int) ∧ x6 = .bool (decide (0 < a + b)) ∧ Hid ((s.data.toList.take i).count 92 = a ∧ (s.data.toList.take i).count 34 = b)) (fun _ _ x10 => s.size - (intOf x10).toNat)
      case atStart => exact ⟨0, 0, 0, by omega, by omega, by omega, rfl, rfl, rfl, Lib.hid ⟨rfl, rfl⟩⟩
      case round =>
        obtain ⟨i, a, b, hi, ha, hb, rfl, rfl, rfl, hab⟩ := hrel
        by_cases hlt : i < s.size
        · have hget := get_byte s i hlt
          have k1 := count_take (y := 92) hget
          have k2 := count_take (y := 34) hget
          rw [hab.out.1] at k1
          rw [hab.out.2] at k2
          by_cases h1 : s[i] = 92
          · have hv : s[i].toNat = 92 := by rw [h1]; rfl
            have hc : w.cell? ⟨g, 92, none⟩ = some (.slice (some ⟨kb, 0, none⟩) 2 cb) := (row_cell hg.out).trans (by rw [List.getElem?_toArray, bs_get]; rfl)
            rw [h1] at k1 k2
            replace k1 := Lib.hid k1
            replace k2 := Lib.hid k2
            clear h1 hget
            go_wp2
            refine ⟨⟨i + 1, a + 1, b, by omega, by omega, by omega, by congr 1, by first | rfl | (congr 1; omega), by rw [decide_eq_true (by omega)], Lib.hid ⟨by rw [k1.out]; rfl, by rw [k2.out]; rfl⟩⟩, by simp [intOf]; omega⟩
          · by_cases h2 : s[i] = 34
            · have hv : s[i].toNat = 34 := by rw [h2]; rfl
              have hc : w.cell? ⟨g, 34, none⟩ = some (.slice (some ⟨ka, 0, none⟩) 2 ca) := (row_cell hg.out).trans (by rw [List.getElem?_toArray, bs_get]; rfl)
              rw [h2] at k1 k2
              replace k1 := Lib.hid k1
              replace k2 := Lib.hid k2
              clear h1 h2 hget
              go_wp2
              refine ⟨⟨i + 1, a, b + 1, by omega, by omega, by omega, by congr 1, by first | rfl | (congr 1; omega), by rw [decide_eq_true (by omega)], Lib.hid ⟨by rw [k1.out]; rfl, by rw [k2.out]; rfl⟩⟩, by simp [intOf]; omega⟩
            · have hn1 : s[i].toNat ≠ 92 := fun e => h1 (UInt8.toNat_inj.1 e)
              have hn2 : s[i].toNat ≠ 34 := fun e => h2 (UInt8.toNat_inj.1 e)
              have hlt8 := s[i].toNat_lt
              have hc : w.cell? ⟨g, s[i].toNat, none⟩ = some (.slice none 0 0) := (row_cell hg.out).trans (by rw [List.getElem?_toArray, bs_get, if_neg (by omega), if_neg hn1, if_neg hn2, if_pos (by omega)]; rfl)
              rw [if_neg h1] at k1
              rw [if_neg h2] at k2
              replace k1 := Lib.hid k1
              replace k2 := Lib.hid k2
              clear h1 h2 hget
              replace hn1 := Lib.hid hn1
              replace hn2 := Lib.hid hn2
              go_wp2
              refine ⟨⟨i + 1, a, b, by omega, by omega, by omega, by congr 1, rfl, rfl, Lib.hid ⟨by rw [k1.out]; rfl, by rw [k2.out]; rfl⟩⟩, by simp [intOf]; omega⟩
        · obtain rfl : i = s.size := by omega
          have hall := hab.out
          rw [List.take_of_length_le (by rw [len_data]; exact Nat.le_refl _), h92.out, h34.out] at hall
          obtain ⟨rfl, rfl⟩ := hall
          go_wp2
          go_meet
          exact ⟨by rw [← hN.out]; rfl, rfl, B⟩
  case rest =>
    obtain ⟨rfl, rfl, bc⟩ := hcut
    by_cases hz : c92 + c34 = 0
    · have hd : decide (0 < c92 + c34) = false := decide_eq_false (by omega)
      have hq := Lib.hid (hsame.out hz)
      replace hz := Lib.hid hz
      simp only [hd]
      clear hd
      go_wp2_with fail
      go_ret
      exact ⟨by rw [hq.out]; rfl, bc.bel⟩
    · have hd : decide (0 < c92 + c34) = true := decide_eq_true (by omega)
      replace hz := Lib.hid hz
      simp only [hd]
      clear hd
      go_wp2_with (refine wpList_make150 rfl (.tmp 84) (.tmp 84) rfl (n := N) rfl rfl (by omega) ?_; intro w1 k1 xs hxs hk1 hlow1 bel1; have bx1 := bc.go bel1; have hk1 := Lib.hid hk1)
      go_loopw [13, 14] (fun x13 x14 wr => ∃ (i : Nat) (pre : List UInt8) (rest : List Value), i ≤ s.size ∧ x14 = .int .i64 i ∧ x13 = .int .i64 (pre.length : Int) ∧ Bz w [] wr ∧ Hid (escL (s.data.toList.take i) = pre) ∧ Hid (wr.heap[k1]? = some (.cells (byV pre ++ rest).toArray 5 (0, 0))) ∧ pre.length + rest.length = N) (fun _ x14 wr => s.size - (intOf x14).toNat)
      case atStart => exact ⟨0, [], xs, by omega, rfl, rfl, bx1, rfl, hk1, by simpa using hxs⟩
      case round =>
        obtain ⟨i, pre, rest, hi, rfl, rfl, bx, hpre, hk, hlen⟩ := hrel
        by_cases hlt : i < s.size
        · have hget := get_byte s i hlt
          have hnx := esc_take hget
          have hroom := esc_room (l := s.data.toList) (i + 1)
          rw [hnx, hpre.out, hlenE.out, List.length_append] at hroom
          rw [hpre.out] at hnx
          by_cases hsp : s[i] = 92 ∨ s[i] = 34
          · rcases hsp with hsp | hsp
            · have hv : s[i].toNat = 92 := by rw [hsp]; rfl
              have he : escB s[i] = [92, 92] := by rw [hsp]; rfl
              rw [he] at hnx hroom
              have hc : wr.cell? ⟨g, 92, none⟩ = some (.slice (some ⟨kb, 0, none⟩) 2 cb) := (row_cell (Below.box hg.out bx.bel hgl)).trans (by rw [List.getElem?_toArray, bs_get]; rfl)
              obtain ⟨oq, hq1, hq2⟩ := hkb
              have hroom2 : pre.length + 2 ≤ N := by simpa using hroom
              have hjN : pre.length < N := by omega
              have s1 := fun W => some_neq W ⟨kb, 0, none⟩ 2 cb
              have hsl := cut150 (k := k1) hjN
              replace hnx := Lib.hid hnx
              replace hsp := Lib.hid hsp
              clear hget he hroom
              go_wp2_with fail
              have hq3 := Lib.hid (Below.box hq1 bx.bel (lt_of_obj hq1))
              have hmin : Hid (2 = Nat.min 2 (N - pre.length)) := Lib.hid (Nat.min_eq_left (by omega)).symm
              have hsum : IntKind.i64.wrap ((pre.length : Int) + 2) = (pre.length : Int) + 2 := IntWalk.i64_in _ (by omega)
              refine wp_region_held_drew (S := (Bz w [])) (by kernel_rfl) (bx.drew) (fun hHeld => ?_)
              refine wpAnyH_take (i := 0) (oi := { dst := (some 102), op := (Op.move (Operand.tmp 13)), type := 3, pos := "replace.go:541", after := #[], guard := none }) (v := ?_) rfl (by kernel_rfl) (by kernel_rfl) (by kernel_rfl) (fun _ _ _ h => h) (Or.inl ⟨by rfl, ?_⟩) (by assumption) ?_
              rotate_left
              · intro w hSw
                (try dsimp only at hSw)
                go_simp
                with_reducible rfl
              (try simp only [Act.put, List.setIfInBounds_toArray, List.set_cons_zero, List.set_cons_succ])
              refine wpAnyH_take (i := 1) (oi := { dst := (some 103), op := (Op.move (Operand.tmp 12)), type := 150, pos := "replace.go:541", after := #[], guard := none }) (v := ?_) rfl (by kernel_rfl) (by kernel_rfl) (by kernel_rfl) (fun _ _ _ h => h) (Or.inl ⟨by rfl, ?_⟩) (by assumption) ?_
              rotate_left
              · intro w hSw
                (try dsimp only at hSw)
                go_simp
                with_reducible rfl
              (try simp only [Act.put, List.setIfInBounds_toArray, List.set_cons_zero, List.set_cons_succ])
              refine wpAnyH_take (i := 2) (oi := { dst := (some 104), op := (Op.move (Operand.tmp 13)), type := 3, pos := "replace.go:541", after := #[], guard := none }) (v := ?_) rfl (by kernel_rfl) (by kernel_rfl) (by kernel_rfl) (fun _ _ _ h => h) (Or.inl ⟨by rfl, ?_⟩) (by assumption) ?_
              rotate_left
              · intro w hSw
                (try dsimp only at hSw)
                go_simp
                with_reducible rfl
              (try simp only [Act.put, List.setIfInBounds_toArray, List.set_cons_zero, List.set_cons_succ])
              refine wpAnyH_take (i := 3) (oi := { dst := (some 105), op := (Op.slice 150 (Operand.tmp 103) (some (Operand.tmp 104)) none none), type := 150, pos := "replace.go:541", after := #[{ on := 1, ground := Ground.data }, { on := 2, ground := Ground.data }], guard := none }) (v := ?_) rfl (by kernel_rfl) (by kernel_rfl) (by kernel_rfl) (fun _ _ _ h => h) (Or.inl ⟨by rfl, ?_⟩) (by assumption) ?_
              rotate_left
              · intro w hSw
                (try dsimp only at hSw)
                go_simp
                with_reducible rfl
              (try simp only [Act.put, List.setIfInBounds_toArray, List.set_cons_zero, List.set_cons_succ])
              refine wpAnyH_take (i := 4) (oi := { dst := (some 106), op := (Op.move (Operand.tmp 0)), type := 353, pos := "replace.go:541", after := #[], guard := none }) (v := ?_) rfl (by kernel_rfl) (by kernel_rfl) (by kernel_rfl) (fun _ _ _ h => h) (Or.inl ⟨by rfl, ?_⟩) (by assumption) ?_
              rotate_left
              · intro w hSw
                (try dsimp only at hSw)
                go_simp
                with_reducible rfl
              (try simp only [Act.put, List.setIfInBounds_toArray, List.set_cons_zero, List.set_cons_succ])
              refine wpAnyH_take (i := 5) (oi := { dst := (some 107), op := (Op.move (Operand.tmp 15)), type := 5, pos := "replace.go:541", after := #[], guard := none }) (v := ?_) rfl (by kernel_rfl) (by kernel_rfl) (by kernel_rfl) (fun _ _ _ h => h) (Or.inl ⟨by rfl, ?_⟩) (by assumption) ?_
              rotate_left
              · intro w hSw
                (try dsimp only at hSw)
                go_simp
                with_reducible rfl
              (try simp only [Act.put, List.setIfInBounds_toArray, List.set_cons_zero, List.set_cons_succ])
              refine wpAnyH_take (i := 6) (oi := { dst := (some 108), op := (Op.nilCheck (Operand.tmp 106)), type := 0, pos := "replace.go:541", after := #[{ on := 4, ground := Ground.data }], guard := none }) (v := ?_) rfl (by kernel_rfl) (by kernel_rfl) (by kernel_rfl) (fun _ _ _ h => h) (Or.inl ⟨by rfl, ?_⟩) (by assumption) ?_
              rotate_left
              · intro w hSw
                (try dsimp only at hSw)
                go_simp
                with_reducible rfl
              (try simp only [Act.put, List.setIfInBounds_toArray, List.set_cons_zero, List.set_cons_succ])
              refine wpAnyH_take (i := 7) (oi := { dst := (some 109), op := (Op.fieldAddr 352 (Operand.tmp 108) 0), type := 0, pos := "replace.go:541", after := #[{ on := 6, ground := Ground.data }], guard := none }) (v := ?_) rfl (by kernel_rfl) (by kernel_rfl) (by kernel_rfl) (fun _ _ _ h => h) (Or.inl ⟨by rfl, ?_⟩) (by assumption) ?_
              rotate_left
              · intro w hSw
                (try dsimp only at hSw)
                go_simp
                with_reducible rfl
              (try simp only [Act.put, List.setIfInBounds_toArray, List.set_cons_zero, List.set_cons_succ])
              refine wpAnyH_take (i := 8) (oi := { dst := (some 110), op := (Op.indexAddr 350 (Operand.tmp 109) (Operand.tmp 107)), type := 0, pos := "replace.go:541", after := #[{ on := 7, ground := Ground.data }, { on := 5, ground := Ground.data }], guard := none }) (v := ?_) rfl (by kernel_rfl) (by kernel_rfl) (by kernel_rfl) (fun _ _ _ h => h) (Or.inl ⟨by rfl, ?_⟩) (by assumption) ?_
              rotate_left
              · intro w hSw
                (try dsimp only at hSw)
                go_simp
                with_reducible rfl
              (try simp only [Act.put, List.setIfInBounds_toArray, List.set_cons_zero, List.set_cons_succ])
              refine wpAnyH_take (i := 9) (oi := { dst := (some 111), op := (Op.load 150 (Operand.tmp 110)), type := 150, pos := "replace.go:541", after := #[{ on := 8, ground := Ground.data }], guard := none }) (v := .slice (some ⟨kb, 0, none⟩) 2 cb) rfl (by kernel_rfl) (by kernel_rfl) (by kernel_rfl) (fun _ _ _ h => h) (Or.inl ⟨by rfl, fun W hW => ?_⟩) (by assumption) ?_
              · exact exec_load 150 _ rfl rfl (loadVar_slice Tryz.underlying150 ((row_cell (Below.box hg.out hW.bel hgl)).trans (by rw [List.getElem?_toArray, bs_get]; rfl)))
              (try simp only [Act.put, List.setIfInBounds_toArray, List.set_cons_zero, List.set_cons_succ])
              refine wpAnyH_ready (rs := [10]) (by kernel_rfl) (by simp) ?_
              refine AllReadyH.cons (o := { dst := (some 112), op := (Op.call { callee := (Callee.builtin Builtin.copy), args := #[(Operand.tmp 105), (Operand.tmp 111)], argTypes := #[150, 150] }), type := 3, pos := "replace.go:541", after := #[{ on := 3, ground := Ground.data }, { on := 9, ground := Ground.data }], guard := none }) rfl (fun K hK => ?_) AllReadyH.nil
              refine step_copy_splice rfl (.tmp 105) (.tmp 111) 150 150 rfl 5 Tryz.underlying150 (by kernel_rfl) (some ⟨k1, pre.length, none⟩) (some ⟨kb, 0, none⟩) (N - pre.length) (N - pre.length) 2 cb rfl rfl k1 pre.length (byV pre ++ rest) 5 hk.out [.int .u8 92, .int .u8 92] hmin.out (fun _ => ⟨rfl, _, rfl, fun j v hj => by rw [Addr.add_lit, Nat.zero_add]; exact hq2.cell hq3.out hj⟩) (by rw [List.length_append, byV_len]; simp; omega) (by intro v hv; simp at hv; rcases hv with rfl | rfl <;> rfl) w.heap.size w bx.drew.bel (Nat.le_trans bc.bel.size hlow1) ?_
              intro w3 hk3 bel3
              refine hK.out _ _ ?_ (fun hHeld => ?_)
              · exact ⟨bel3, trivial, List.Pairwise.nil, fun x h => by cases h⟩
              clear hK K
              (try simp only [Act.put, List.setIfInBounds_toArray, List.set_cons_zero, List.set_cons_succ])
              refine wpAnyH_take (i := 11) (oi := { dst := (some 113), op := (Op.binOp BinOp.add 3 (Operand.tmp 102) (Operand.tmp 112) 3), type := 3, pos := "replace.go:541", after := #[{ on := 0, ground := Ground.data }, { on := 10, ground := Ground.data }], guard := none }) (v := ?_) rfl (by kernel_rfl) (by kernel_rfl) (by kernel_rfl) (fun _ _ _ h => h) (Or.inl ⟨by rfl, ?_⟩) (by assumption) ?_
              rotate_left
              · intro w hSw
                (try dsimp only at hSw)
                go_simp
                with_reducible rfl
              (try simp only [Act.put, List.setIfInBounds_toArray, List.set_cons_zero, List.set_cons_succ])
              refine wpAnyH_take (i := 12) (oi := { dst := (some 13), op := (Op.assign (Operand.tmp 113)), type := 3, pos := "replace.go:541", after := #[{ on := 11, ground := Ground.data }, { on := 10, ground := Ground.chain }, { on := 0, ground := Ground.phase }, { on := 1, ground := Ground.phase }, { on := 2, ground := Ground.phase }, { on := 3, ground := Ground.phase }, { on := 4, ground := Ground.phase }, { on := 5, ground := Ground.phase }, { on := 6, ground := Ground.phase }, { on := 7, ground := Ground.phase }, { on := 8, ground := Ground.phase }, { on := 9, ground := Ground.phase }, { on := 10, ground := Ground.phase }, { on := 11, ground := Ground.phase }], guard := none }) (v := ?_) rfl (by kernel_rfl) (by kernel_rfl) (by kernel_rfl) (fun _ _ _ h => h) (Or.inl ⟨by rfl, ?_⟩) (by assumption) ?_
              rotate_left
              · intro w hSw
                (try dsimp only at hSw)
                go_simp
                with_reducible rfl
              (try simp only [Act.put, List.setIfInBounds_toArray, List.set_cons_zero, List.set_cons_succ])
              refine wpAnyH_done (by kernel_rfl) ?_ _
              go_wp2_with fail
              have hsp2 : splice (byV pre ++ rest) pre.length [.int .u8 92, .int .u8 92] = byV (pre ++ [92, 92]) ++ rest.drop 2 := by
                unfold splice
                rw [List.take_left' (byV_len pre), List.drop_append, byV_len, byV_app]
                rw [List.drop_eq_nil_of_le (by rw [byV_len]; simp)]
                simp [byV]
              have hk4 : Hid (w3.heap[k1]? = some (.cells (byV (pre ++ [92, 92]) ++ rest.drop 2).toArray 5 (0, 0))) := Lib.hid (by rw [← hsp2]; exact hk3.out)
              refine ⟨⟨i + 1, pre ++ [92, 92], rest.drop 2, by omega, by congr 1, by congr 1; simp only [List.length_append, List.length_cons, List.length_nil]; first | exact hsum | (rw [hsum]; simp) | simp, hHeld, hnx, hk4, by simp; omega⟩, by simp [intOf]; omega⟩
            · have hv : s[i].toNat = 34 := by rw [hsp]; rfl
              have he : escB s[i] = [92, 34] := by rw [hsp]; rfl
              rw [he] at hnx hroom
              have hc : wr.cell? ⟨g, 34, none⟩ = some (.slice (some ⟨ka, 0, none⟩) 2 ca) := (row_cell (Below.box hg.out bx.bel hgl)).trans (by rw [List.getElem?_toArray, bs_get]; rfl)
              obtain ⟨oq, hq1, hq2⟩ := hka
              have hroom2 : pre.length + 2 ≤ N := by simpa using hroom
              have hjN : pre.length < N := by omega
              have s1 := fun W => some_neq W ⟨ka, 0, none⟩ 2 ca
              have hsl := cut150 (k := k1) hjN
              replace hnx := Lib.hid hnx
              replace hsp := Lib.hid hsp
              clear hget he hroom
              go_wp2_with fail
              have hq3 := Lib.hid (Below.box hq1 bx.bel (lt_of_obj hq1))
              have hmin : Hid (2 = Nat.min 2 (N - pre.length)) := Lib.hid (Nat.min_eq_left (by omega)).symm
              have hsum : IntKind.i64.wrap ((pre.length : Int) + 2) = (pre.length : Int) + 2 := IntWalk.i64_in _ (by omega)
              refine wp_region_held_drew (S := (Bz w [])) (by kernel_rfl) (bx.drew) (fun hHeld => ?_)
              refine wpAnyH_take (i := 0) (oi := { dst := (some 102), op := (Op.move (Operand.tmp 13)), type := 3, pos := "replace.go:541", after := #[], guard := none }) (v := ?_) rfl (by kernel_rfl) (by kernel_rfl) (by kernel_rfl) (fun _ _ _ h => h) (Or.inl ⟨by rfl, ?_⟩) (by assumption) ?_
              rotate_left
              · intro w hSw
                (try dsimp only at hSw)
                go_simp
                with_reducible rfl
              (try simp only [Act.put, List.setIfInBounds_toArray, List.set_cons_zero, List.set_cons_succ])
              refine wpAnyH_take (i := 1) (oi := { dst := (some 103), op := (Op.move (Operand.tmp 12)), type := 150, pos := "replace.go:541", after := #[], guard := none }) (v := ?_) rfl (by kernel_rfl) (by kernel_rfl) (by kernel_rfl) (fun _ _ _ h => h) (Or.inl ⟨by rfl, ?_⟩) (by assumption) ?_
              rotate_left
              · intro w hSw
                (try dsimp only at hSw)
                go_simp
                with_reducible rfl
              (try simp only [Act.put, List.setIfInBounds_toArray, List.set_cons_zero, List.set_cons_succ])
              refine wpAnyH_take (i := 2) (oi := { dst := (some 104), op := (Op.move (Operand.tmp 13)), type := 3, pos := "replace.go:541", after := #[], guard := none }) (v := ?_) rfl (by kernel_rfl) (by kernel_rfl) (by kernel_rfl) (fun _ _ _ h => h) (Or.inl ⟨by rfl, ?_⟩) (by assumption) ?_
              rotate_left
              · intro w hSw
                (try dsimp only at hSw)
                go_simp
                with_reducible rfl
              (try simp only [Act.put, List.setIfInBounds_toArray, List.set_cons_zero, List.set_cons_succ])
              refine wpAnyH_take (i := 3) (oi := { dst := (some 105), op := (Op.slice 150 (Operand.tmp 103) (some (Operand.tmp 104)) none none), type := 150, pos := "replace.go:541", after := #[{ on := 1, ground := Ground.data }, { on := 2, ground := Ground.data }], guard := none }) (v := ?_) rfl (by kernel_rfl) (by kernel_rfl) (by kernel_rfl) (fun _ _ _ h => h) (Or.inl ⟨by rfl, ?_⟩) (by assumption) ?_
              rotate_left
              · intro w hSw
                (try dsimp only at hSw)
                go_simp
                with_reducible rfl
              (try simp only [Act.put, List.setIfInBounds_toArray, List.set_cons_zero, List.set_cons_succ])
              refine wpAnyH_take (i := 4) (oi := { dst := (some 106), op := (Op.move (Operand.tmp 0)), type := 353, pos := "replace.go:541", after := #[], guard := none }) (v := ?_) rfl (by kernel_rfl) (by kernel_rfl) (by kernel_rfl) (fun _ _ _ h => h) (Or.inl ⟨by rfl, ?_⟩) (by assumption) ?_
              rotate_left
              · intro w hSw
                (try dsimp only at hSw)
                go_simp
                with_reducible rfl
              (try simp only [Act.put, List.setIfInBounds_toArray, List.set_cons_zero, List.set_cons_succ])
              refine wpAnyH_take (i := 5) (oi := { dst := (some 107), op := (Op.move (Operand.tmp 15)), type := 5, pos := "replace.go:541", after := #[], guard := none }) (v := ?_) rfl (by kernel_rfl) (by kernel_rfl) (by kernel_rfl) (fun _ _ _ h => h) (Or.inl ⟨by rfl, ?_⟩) (by assumption) ?_
              rotate_left
              · intro w hSw
                (try dsimp only at hSw)
                go_simp
                with_reducible rfl
              (try simp only [Act.put, List.setIfInBounds_toArray, List.set_cons_zero, List.set_cons_succ])
              refine wpAnyH_take (i := 6) (oi := { dst := (some 108), op := (Op.nilCheck (Operand.tmp 106)), type := 0, pos := "replace.go:541", after := #[{ on := 4, ground := Ground.data }], guard := none }) (v := ?_) rfl (by kernel_rfl) (by kernel_rfl) (by kernel_rfl) (fun _ _ _ h => h) (Or.inl ⟨by rfl, ?_⟩) (by assumption) ?_
              rotate_left
              · intro w hSw
                (try dsimp only at hSw)
                go_simp
                with_reducible rfl
              (try simp only [Act.put, List.setIfInBounds_toArray, List.set_cons_zero, List.set_cons_succ])
              refine wpAnyH_take (i := 7) (oi := { dst := (some 109), op := (Op.fieldAddr 352 (Operand.tmp 108) 0), type := 0, pos := "replace.go:541", after := #[{ on := 6, ground := Ground.data }], guard := none }) (v := ?_) rfl (by kernel_rfl) (by kernel_rfl) (by kernel_rfl) (fun _ _ _ h => h) (Or.inl ⟨by rfl, ?_⟩) (by assumption) ?_
              rotate_left
              · intro w hSw
                (try dsimp only at hSw)
                go_simp
                with_reducible rfl
              (try simp only [Act.put, List.setIfInBounds_toArray, List.set_cons_zero, List.set_cons_succ])
              refine wpAnyH_take (i := 8) (oi := { dst := (some 110), op := (Op.indexAddr 350 (Operand.tmp 109) (Operand.tmp 107)), type := 0, pos := "replace.go:541", after := #[{ on := 7, ground := Ground.data }, { on := 5, ground := Ground.data }], guard := none }) (v := ?_) rfl (by kernel_rfl) (by kernel_rfl) (by kernel_rfl) (fun _ _ _ h => h) (Or.inl ⟨by rfl, ?_⟩) (by assumption) ?_
              rotate_left
              · intro w hSw
                (try dsimp only at hSw)
                go_simp
                with_reducible rfl
              (try simp only [Act.put, List.setIfInBounds_toArray, List.set_cons_zero, List.set_cons_succ])
              refine wpAnyH_take (i := 9) (oi := { dst := (some 111), op := (Op.load 150 (Operand.tmp 110)), type := 150, pos := "replace.go:541", after := #[{ on := 8, ground := Ground.data }], guard := none }) (v := .slice (some ⟨ka, 0, none⟩) 2 ca) rfl (by kernel_rfl) (by kernel_rfl) (by kernel_rfl) (fun _ _ _ h => h) (Or.inl ⟨by rfl, fun W hW => ?_⟩) (by assumption) ?_
              · exact exec_load 150 _ rfl rfl (loadVar_slice Tryz.underlying150 ((row_cell (Below.box hg.out hW.bel hgl)).trans (by rw [List.getElem?_toArray, bs_get]; rfl)))
              (try simp only [Act.put, List.setIfInBounds_toArray, List.set_cons_zero, List.set_cons_succ])
              refine wpAnyH_ready (rs := [10]) (by kernel_rfl) (by simp) ?_
              refine AllReadyH.cons (o := { dst := (some 112), op := (Op.call { callee := (Callee.builtin Builtin.copy), args := #[(Operand.tmp 105), (Operand.tmp 111)], argTypes := #[150, 150] }), type := 3, pos := "replace.go:541", after := #[{ on := 3, ground := Ground.data }, { on := 9, ground := Ground.data }], guard := none }) rfl (fun K hK => ?_) AllReadyH.nil
              refine step_copy_splice rfl (.tmp 105) (.tmp 111) 150 150 rfl 5 Tryz.underlying150 (by kernel_rfl) (some ⟨k1, pre.length, none⟩) (some ⟨ka, 0, none⟩) (N - pre.length) (N - pre.length) 2 ca rfl rfl k1 pre.length (byV pre ++ rest) 5 hk.out [.int .u8 92, .int .u8 34] hmin.out (fun _ => ⟨rfl, _, rfl, fun j v hj => by rw [Addr.add_lit, Nat.zero_add]; exact hq2.cell hq3.out hj⟩) (by rw [List.length_append, byV_len]; simp; omega) (by intro v hv; simp at hv; rcases hv with rfl | rfl <;> rfl) w.heap.size w bx.drew.bel (Nat.le_trans bc.bel.size hlow1) ?_
              intro w3 hk3 bel3
              refine hK.out _ _ ?_ (fun hHeld => ?_)
              · exact ⟨bel3, trivial, List.Pairwise.nil, fun x h => by cases h⟩
              clear hK K
              (try simp only [Act.put, List.setIfInBounds_toArray, List.set_cons_zero, List.set_cons_succ])
              refine wpAnyH_take (i := 11) (oi := { dst := (some 113), op := (Op.binOp BinOp.add 3 (Operand.tmp 102) (Operand.tmp 112) 3), type := 3, pos := "replace.go:541", after := #[{ on := 0, ground := Ground.data }, { on := 10, ground := Ground.data }], guard := none }) (v := ?_) rfl (by kernel_rfl) (by kernel_rfl) (by kernel_rfl) (fun _ _ _ h => h) (Or.inl ⟨by rfl, ?_⟩) (by assumption) ?_
              rotate_left
              · intro w hSw
                (try dsimp only at hSw)
                go_simp
                with_reducible rfl
              (try simp only [Act.put, List.setIfInBounds_toArray, List.set_cons_zero, List.set_cons_succ])
              refine wpAnyH_take (i := 12) (oi := { dst := (some 13), op := (Op.assign (Operand.tmp 113)), type := 3, pos := "replace.go:541", after := #[{ on := 11, ground := Ground.data }, { on := 10, ground := Ground.chain }, { on := 0, ground := Ground.phase }, { on := 1, ground := Ground.phase }, { on := 2, ground := Ground.phase }, { on := 3, ground := Ground.phase }, { on := 4, ground := Ground.phase }, { on := 5, ground := Ground.phase }, { on := 6, ground := Ground.phase }, { on := 7, ground := Ground.phase }, { on := 8, ground := Ground.phase }, { on := 9, ground := Ground.phase }, { on := 10, ground := Ground.phase }, { on := 11, ground := Ground.phase }], guard := none }) (v := ?_) rfl (by kernel_rfl) (by kernel_rfl) (by kernel_rfl) (fun _ _ _ h => h) (Or.inl ⟨by rfl, ?_⟩) (by assumption) ?_
              rotate_left
              · intro w hSw
                (try dsimp only at hSw)
                go_simp
                with_reducible rfl
              (try simp only [Act.put, List.setIfInBounds_toArray, List.set_cons_zero, List.set_cons_succ])
              refine wpAnyH_done (by kernel_rfl) ?_ _
              go_wp2_with fail
              have hsp2 : splice (byV pre ++ rest) pre.length [.int .u8 92, .int .u8 34] = byV (pre ++ [92, 34]) ++ rest.drop 2 := by
                unfold splice
                rw [List.take_left' (byV_len pre), List.drop_append, byV_len, byV_app]
                rw [List.drop_eq_nil_of_le (by rw [byV_len]; simp)]
                simp [byV]
              have hk4 : Hid (w3.heap[k1]? = some (.cells (byV (pre ++ [92, 34]) ++ rest.drop 2).toArray 5 (0, 0))) := Lib.hid (by rw [← hsp2]; exact hk3.out)
              refine ⟨⟨i + 1, pre ++ [92, 34], rest.drop 2, by omega, by congr 1, by congr 1; simp only [List.length_append, List.length_cons, List.length_nil]; first | exact hsum | (rw [hsum]; simp) | simp, hHeld, hnx, hk4, by simp; omega⟩, by simp [intOf]; omega⟩
          · have h1 : s[i] ≠ 92 := fun e => hsp (.inl e)
            have h2 : s[i] ≠ 34 := fun e => hsp (.inr e)
            have hn1 : s[i].toNat ≠ 92 := fun e => h1 (UInt8.toNat_inj.1 e)
            have hn2 : s[i].toNat ≠ 34 := fun e => h2 (UInt8.toNat_inj.1 e)
            have hlt8 := s[i].toNat_lt
            have hc : wr.cell? ⟨g, s[i].toNat, none⟩ = some (.slice none 0 0) := (row_cell (Below.box hg.out bx.bel hgl)).trans (by rw [List.getElem?_toArray, bs_get, if_neg (by omega), if_neg hn1, if_neg hn2, if_pos (by omega)]; rfl)
            have he : escB s[i] = [s[i]] := by unfold escB; rw [if_neg h2, if_neg h1]
            rw [he] at hnx hroom
            obtain ⟨r0, rest', rfl⟩ : ∃ r0 rest', rest = r0 :: rest' := by
              cases rest with
              | nil => simp at hroom hlen; omega
              | cons r0 rest' => exact ⟨r0, rest', rfl⟩
            have hcell : wr.cell? ⟨k1, pre.length, none⟩ = some r0 := (row_cell hk.out).trans (by rw [List.getElem?_toArray, List.getElem?_append_right (by rw [byV_len]; exact Nat.le_refl _), byV_len, Nat.sub_self]; rfl)
            have hfrz : wr.frozen? ⟨k1, pre.length, none⟩ = false := row_free hk.out
            have hjN : decide ((pre.length : Int) < N) = true := decide_eq_true (by simp at hlen; omega)
            have hlenN : pre.length < N := by simp at hlen; omega
            have s3 := nil_neq
            have hb1 := row_set hk.out (i := pre.length) (cs' := (byV (pre ++ [s[i]]) ++ rest').toArray) (.int .u8 s[i].toNat) (by rw [List.setIfInBounds_toArray, List.set_append_right _ _ (by rw [byV_len]; exact Nat.le_refl _), byV_len, Nat.sub_self, List.set_cons_zero, byV_app, List.append_assoc]; rfl)
            have fr := Fr.setCell (S := fun b => b = k1) (Fr.refl _ wr) (p := ⟨k1, pre.length, none⟩) (.inl rfl) (.int .u8 s[i].toNat)
            have bel2 : Below w.heap.size w (wr.setCell ⟨k1, pre.length, none⟩ (.int .u8 s[i].toNat)) := bx.bel.trans (fr.belowS (fun b hb => by have := bc.bel.size; omega) bx.bel.size)
            have hl2 : pre.length + 1 + rest'.length = N := by simp at hlen; omega
            replace hb1 := Lib.hid hb1
            replace hnx := Lib.hid hnx
            clear h1 h2 hsp hget he hroom hlen
            replace hn1 := Lib.hid hn1
            replace hn2 := Lib.hid hn2
            go_wp2
            refine ⟨⟨i + 1, pre ++ [s[i]], rest', by omega, by congr 1, by congr 1; simp, ⟨bel2, trivial, List.Pairwise.nil, fun x h => by cases h⟩, hnx, hb1, by simp; omega⟩, by simp [intOf]; omega⟩
        · obtain rfl : i = s.size := by omega
          have hall := hpre.out
          rw [List.take_of_length_le (by rw [len_data]; exact Nat.le_refl _)] at hall
          have hr0 : rest = [] := List.eq_nil_of_length_eq_zero (by have := hlenE.out; rw [hall] at this; omega)
          subst hr0
          have hN2 : pre.length = N := by simpa using hlen
          have hcv : (convert 150 9 (.slice (some ⟨k1, 0, none⟩) N N)).run Tryz.prog wr = .ok (.string ⟨pre.toArray⟩) wr := by
            rw [← str_nums pre]
            refine run_convert_bytes_arg (P := Tryz.prog) wr 150 5 Tryz.underlying150 Tryz.underlying5 k1 0 N N (pre.map fun b => (b.toNat : Int)) (by rw [List.length_map]; exact hN2) (fun j hj => ?_) 9 Tryz.underlying9
            rw [Nat.zero_add]
            refine (row_cell hk.out).trans ?_
            rw [List.getElem?_toArray, List.append_nil]
            unfold byV
            rw [List.getElem?_map, List.getD_eq_getElem?_getD, List.getElem?_map, List.getElem?_eq_getElem (by omega)]; rfl
          replace hall := Lib.hid hall
          replace hN2 := Lib.hid hN2
          clear hlen
          go_wp2
          go_ret
          exact ⟨by rw [hall.out]; rfl, bx.bel⟩
end
end Go.Proofs.YtnljjlaececnkaaGreatDoor
/-
  A Replacer's Replace; a word as it is written. Condition: a text of no more than the program's bound.
-/
namespace Go.Proofs.YtnljjlaececnkaaGreatDoor
open Go.RowKit
set_option linter.unusedVariables false
set_option linter.unusedSimpArgs false
theorem inv353 (x : Addr) (W : World) : (method 521 353 (.pointer (some x)) "Replace").run Tryz.prog W = .ok (361, .pointer (some x)) W := by kernel_rfl
theorem ba_cat (a b : List UInt8) : ((⟨a.toArray⟩ : ByteArray) ++ ⟨b.toArray⟩) = ⟨(a ++ b).toArray⟩ := by
  apply ByteArray.ext
  rw [ByteArray.data_append]
  simp
theorem cnt_le (s : ByteArray) (c : UInt8) : s.data.toList.count c ≤ s.size := by
  rw [← len_data]; exact List.count_le_length
set_option maxRecDepth 100000 in
set_option maxHeartbeats 1600000 in
theorem repl_any {W : World} {B b k c : Nat} {r : Value} {ok : Obj} (hBb : B ≤ b) (hBW : B ≤ W.heap.size) (hb : W.heap[b]? = some (oRep 0 0 r (.slice (some ⟨k, 0, none⟩) 4 c))) (hk : W.heap[k]? = some ok) (hkb : k ≠ b) (hr : RowIn ok (strs RL)) {s : ByteArray} (hs : s.size < 4294967281) :
    Calls Tryz.prog 171 #[.pointer (some ⟨b, 0, none⟩), .string s] W fun e w' => e = .returned (.string ⟨(escL s.data.toList).toArray⟩) ∧ Below B W w' := by
  have hd := do_any hb hk hkb hr
  clear hb hk hkb hr
  go_enter Tryz.func171, Tryz.ntmps171
  go_upto_region 2 with (go_at_call 208; refine hd.mono ?_; clear hd; rintro e w2 ⟨rfl, hbt, hf⟩)
  obtain ⟨g, pre, ⟨ka, kb, kt, ca, cb, ct, oa, ob, ot, m1, m2, m3, m4, r1, r2, r3⟩, hall, hlow, hbox⟩ := hbt
  have c3 := (oRep_cells hbox).2.2.1
  have hrp := rep_head hs rfl rfl (hall _ m1) (hall _ m4) r3 ⟨oa, hall _ m2, r1⟩ ⟨ob, hall _ m3, r2⟩ ⟨cnt_le s 92, cnt_le s 34⟩ rfl
  have bel2 : Below B W w2 := hf.belowS (fun x hx => by rw [hx]; exact hBb) hBW
  have hsz : B ≤ w2.heap.size := Nat.le_trans hBW bel2.size
  clear hf hbox hall hlow m1 m2 m3 m4 r1 r2 r3
  replace bel2 := Lib.hid bel2
  have hinv := fun W => inv353 ⟨g, 0, none⟩ W
  go_wp2_with (go_at_call 361; refine hrp.mono ?_; clear hrp; rintro e w3 ⟨rfl, bel3⟩)
  go_ret
  exact ⟨rfl, bel2.out.trans (bel3.mono hsz)⟩
/-- May a word be written as it is? -/
def plainW (l : List UInt8) : Bool := match l with
  | [] => false
  | c :: _ => c != 34 && c != 35 && !(decide (0 ≤ Lib.indexByte l 32))
/-- A word, as it is written. -/
def wordL (l : List UInt8) : List UInt8 := if plainW l then l else [34] ++ escL l ++ [34]
theorem plain_cons {s : ByteArray} (h : 0 < s.size) : plainW s.data.toList = (s[0] != 34 && s[0] != 35 && !(decide (0 ≤ Lib.indexByte s.data.toList 32))) := by
  have hg := get_byte s 0 h
  generalize s.data.toList = l at *
  cases l with
  | nil => cases hg
  | cons c l => simp at hg; subst hg; rfl
theorem esc_le (l : List UInt8) : (escL l).length ≤ 3 * l.length := by
  rw [esc_len]
  have h1 := List.count_le_length (a := (92 : UInt8)) (l := l)
  have h2 := List.count_le_length (a := (34 : UInt8)) (l := l)
  omega
set_option maxRecDepth 100000 in
set_option maxHeartbeats 1600000 in
theorem word_any {w : World} {s : ByteArray} (hs : s.size < 4294967281) : Calls Tryz.prog 113 #[.string s] w fun e w' => e = .returned (.string ⟨(wordL s.data.toList).toArray⟩) ∧ Below w.heap.size w w' := by
  have hc := fun W => Tryz.strings_Contains_one s 32 W
  have hrep := fun {W : World} {b k c : Nat} {r : Value} {ok : Obj} (h1 : w.heap.size ≤ b) (h2 : w.heap.size ≤ W.heap.size) h3 h4 h5 h6 => repl_any (W := W) (B := w.heap.size) (b := b) (k := k) (c := c) (r := r) (ok := ok) h1 h2 h3 h4 h5 h6 hs
  obtain ⟨pl, hpl⟩ : ∃ pl, plainW s.data.toList = pl := ⟨_, rfl⟩
  have hlen := esc_le s.data.toList
  rw [len_data] at hlen
  replace hlen := Lib.hid hlen
  go_enter Tryz.func113, Tryz.ntmps113
  go_upto_region 1 with fail
  go_cut [19] from 3 to 26 (fun x19 W => x19 = .bool pl ∧ W = w)
  case first =>
    by_cases h0 : 0 < s.size
    · rw [plain_cons h0] at hpl
      have n1 : (s.toList == ([] : List UInt8)) = false := by
        rw [Lib.toList_data] 
        have := len_data s
        cases h : s.data.toList with
        | nil => rw [h] at this; simp at this; omega
        | cons c l => rfl
      have n2 : (s.toList != ([] : List UInt8)) = true := by show (!(s.toList == ([] : List UInt8))) = true; rw [n1]; rfl
      by_cases h1 : s[0] = 34
      · have hv : s[0].toNat = 34 := by rw [h1]; rfl
        have hq : pl = false := by rw [← hpl, h1]; rfl
        subst hq
        go_wp2
        go_meet
        exact ⟨rfl, rfl⟩
      · have hn1 : s[0].toNat ≠ 34 := fun e => h1 (UInt8.toNat_inj.1 e)
        by_cases h2 : s[0] = 35
        · have hv : s[0].toNat = 35 := by rw [h2]; rfl
          have hq : pl = false := by rw [← hpl, h2]; rfl
          subst hq
          go_wp2
          go_meet
          exact ⟨rfl, rfl⟩
        · have hn2 : s[0].toNat ≠ 35 := fun e => h2 (UInt8.toNat_inj.1 e)
          have hq : pl = !(decide (0 ≤ Lib.indexByte s.data.toList 32)) := by
            rw [← hpl]; simp [h1, h2]
          subst hq
          clear hpl
          go_wp2_with (go_at_call 169; refine (hc _).mono ?_; rintro e w' ⟨rfl, rfl⟩)
          go_meet
          refine ⟨?_, rfl⟩
          rw [show ((s[0].toNat : Int) != 34) = true by simp; omega, show ((s[0].toNat : Int) != 35) = true by simp; omega]; rfl
    · have n1 : (s.toList == ([] : List UInt8)) = true := by
        rw [Lib.toList_data] 
        have := len_data s
        cases h : s.data.toList with
        | nil => rfl
        | cons c l => rw [h] at this; simp at this; omega
      have n2 : (s.toList != ([] : List UInt8)) = false := by show (!(s.toList == ([] : List UInt8))) = false; rw [n1]; rfl
      have hq : pl = false := by
        rw [← hpl]
        have := len_data s
        cases h : s.data.toList with
        | nil => rfl
        | cons c l => rw [h] at this; simp at this; omega
      subst hq
      go_wp2
      go_meet
      exact ⟨rfl, rfl⟩
  case rest =>
    obtain ⟨rfl, rfl⟩ := hcut
    cases pl with
    | true =>
      go_wp2
      go_ret
      exact ⟨by unfold wordL; rw [hpl]; rfl, Below.refl _ _⟩
    | false =>
      have hw : Hid (wordL s.data.toList = [34] ++ escL s.data.toList ++ [34]) := Lib.hid (by unfold wordL; rw [hpl]; rfl)
      clear hpl hc
      have hL1 : ¬ 9223372036854775807 < 1 + (escL s.data.toList).length := by have := hlen.out; omega
      have hL2 : ¬ 9223372036854775807 < 1 + (escL s.data.toList).length + 1 := by have := hlen.out; omega
      go_wp2_with (first | (go_at_call 170; refine (newrep_any (box1 wc _)).mono ?_; rintro e w2 ⟨⟨b, k, c, ok, rfl, hk1, hkb, hbx, hkx, hri⟩, bel⟩; rw [World.size_alloc] at hk1 bel; have hb1 : wc.heap.size ≤ b := (by omega); have hb2 : wc.heap.size ≤ w2.heap.size := (by have := lt_of_obj hbx; omega); have hr3 := hrep hb1 hb2 hbx hkx (by omega) hri; have bel2 : Below wc.heap.size wc w2 := ((Below.refl _ wc).alloc (Nat.le_refl _) _).trans (bel.mono (Nat.le_succ _)); clear hrep) | (go_at_call 171; refine hr3.mono ?_; clear hr3; rintro e w3 ⟨rfl, bel3⟩))
      go_ret
      exact ⟨by rw [hw.out, ← ba_cat, ← ba_cat]; rfl, bel2.trans bel3⟩
end Go.Proofs.YtnljjlaececnkaaGreatDoor
/-
  The reader of words: may a byte stand here; the next byte; a run of bytes. No condition.
-/
namespace Go.Proofs.YtnljjlaececnkaaGreatDoor
open Go.RowKit
set_option linter.unusedVariables false
set_option linter.unusedSimpArgs false
/-- May this byte stand in a line? -/
def mayB (c : UInt8) : Bool := decide (32 ≤ (c.toNat : Int)) && decide ((c.toNat : Int) ≤ 126)
/-- What reads. -/
def oSc (s : ByteArray) (i e : Int) : Obj := .cells #[.string s, .int .i64 i, .int .i64 e] 138 (0, 0)
/-- The next byte, if there is one that may stand there. -/
def nextS (l : List UInt8) (e : Int) : Int × Bool × Int := if e ≠ 0 then (0, false, e) else match l with
  | [] => (0, false, 0)
  | c :: _ => if mayB c = true then (c.toNat, true, 0) else (0, false, 81)
/-- A run up to a byte: what is left, and the fault. -/
def runS (st : Int) : List UInt8 → List UInt8 × Int
  | [] => ([], 0)
  | c :: r => if mayB c = false then (c :: r, 81) else if (c.toNat : Int) = st then (c :: r, 0) else runS st r
theorem may_any {w : World} (c : UInt8) : Calls Tryz.prog 158 #[.int .u8 c.toNat] w fun e w' => e = .returned (.bool (mayB c)) ∧ w' = w := by
  by_cases h : (32 : Int) ≤ c.toNat
  · have hd : decide ((32 : Int) ≤ c.toNat) = true := decide_eq_true h
    have hq : mayB c = decide ((c.toNat : Int) ≤ 126) := by unfold mayB; rw [hd]; rfl
    go_enter Tryz.func158, Tryz.ntmps158
    go_wp2
    go_ret
    exact ⟨by first | rfl | (rw [hq]; rfl), rfl⟩
  · have hd : decide ((32 : Int) ≤ c.toNat) = false := decide_eq_false h
    have hq : mayB c = false := by unfold mayB; rw [hd]; rfl
    go_enter Tryz.func158, Tryz.ntmps158
    go_wp2
    go_ret
    exact ⟨by first | rfl | (rw [hq]; rfl), rfl⟩
theorem rmay_any {w : World} (c : UInt8) : Calls Tryz.prog 97 #[.int .u8 c.toNat] w fun e w' => e = .returned (.bool (mayB c)) ∧ w' = w := by
  by_cases h : (32 : Int) ≤ c.toNat
  · have hd : decide ((32 : Int) ≤ c.toNat) = true := decide_eq_true h
    have hq : mayB c = decide ((c.toNat : Int) ≤ 126) := by unfold mayB; rw [hd]; rfl
    go_enter Tryz.func97, Tryz.ntmps97
    go_wp2
    go_ret
    exact ⟨by first | rfl | (rw [hq]; rfl), rfl⟩
  · have hd : decide ((32 : Int) ≤ c.toNat) = false := decide_eq_false h
    have hq : mayB c = false := by unfold mayB; rw [hd]; rfl
    go_enter Tryz.func97, Tryz.ntmps97
    go_wp2
    go_ret
    exact ⟨by first | rfl | (rw [hq]; rfl), rfl⟩
theorem sc_cells {W : World} {g : Nat} {s : ByteArray} {i e : Int} (h : W.heap[g]? = some (oSc s i e)) : W.cell? ⟨g, 0, none⟩ = some (.string s) ∧ W.cell? ⟨g, 1, none⟩ = some (.int .i64 i) ∧ W.cell? ⟨g, 2, none⟩ = some (.int .i64 e) ∧ ∀ j, W.frozen? ⟨g, j, none⟩ = false :=
  ⟨(row_cell h).trans rfl, (row_cell h).trans rfl, (row_cell h).trans rfl, fun j => row_free h⟩
theorem sc_set {W : World} {g : Nat} {s : ByteArray} {i e : Int} (h : W.heap[g]? = some (oSc s i e)) : (∀ x : Int, (W.setCell ⟨g, 1, none⟩ (.int .i64 x)).heap[g]? = some (oSc s x e)) ∧ ∀ x : Int, (W.setCell ⟨g, 2, none⟩ (.int .i64 x)).heap[g]? = some (oSc s i x) :=
  ⟨fun x => row_set h _ rfl, fun x => row_set h _ rfl⟩
theorem drop_cons {s : ByteArray} {i : Nat} {c : UInt8} {r : List UInt8} (h : s.data.toList.drop i = c :: r) : ∃ hi : i < s.size, s[i] = c ∧ s.data.toList.drop (i + 1) = r := by
  have h2 : s.data.toList[i]? = some c := by
    have := congrArg (fun l => l[0]?) h
    simpa [List.getElem?_drop] using this
  have hi : i < s.size := by
    have := (List.getElem?_eq_some_iff.1 h2).1
    rwa [len_data] at this
  refine ⟨hi, ?_, ?_⟩
  · have := get_byte s i hi
    rw [h2] at this
    exact (Option.some.inj this).symm
  · rw [← List.drop_drop, h]; rfl
theorem drop_nil {s : ByteArray} {i : Nat} (hi : i ≤ s.size) (h : s.data.toList.drop i = []) : i = s.size := by
  have := congrArg List.length h
  rw [List.length_drop, len_data] at this
  simp at this; omega
set_option maxRecDepth 100000 in
set_option maxHeartbeats 1600000 in
theorem next_any {W : World} {g : Nat} {s : ByteArray} {i : Nat} {e : Int} {l : List UInt8} (hg : W.heap[g]? = some (oSc s i e)) (hi : i ≤ s.size) (hl : s.data.toList.drop i = l) :
    Calls Tryz.prog 94 #[.pointer (some ⟨g, 0, none⟩)] W fun e' w' => e' = .returned (.tuple #[.int .u8 (nextS l e).1, .bool (nextS l e).2.1]) ∧ w'.heap[g]? = some (oSc s i (nextS l e).2.2) ∧ Fr (fun b => b = g) W w' := by
  obtain ⟨c0, c1, c2, cf⟩ := sc_cells hg
  have f2 := cf 2
  by_cases he : e = 0
  · subst he
    cases l with
    | nil =>
      obtain rfl := drop_nil hi hl
      have hq : nextS [] 0 = (0, false, 0) := rfl
      rw [hq]
      replace hg := Lib.hid hg
      clear hl cf
      go_enter Tryz.func94, Tryz.ntmps94
      go_wp2
      repeat (go_quiet (fail); try go_wp2)
      go_ret2
      exact ⟨rfl, hg.out, (Fr.refl _ _).drewN _⟩
    | cons c r =>
      obtain ⟨hlt, hc, -⟩ := drop_cons hl
      subst hc
      have hm := fun w => may_any (w := w) s[i]
      have hne : ((i : Int) == s.size) = false := by simp; omega
      have h2 := (sc_set hg).2 81
      replace hg := Lib.hid hg
      replace h2 := Lib.hid h2
      clear hl cf
      cases hb : mayB s[i] with
      | true =>
        have hq : nextS (s[i] :: r) 0 = ((s[i].toNat : Int), true, 0) := by unfold nextS; simp [hb]
        rw [hq]
        rw [hb] at hm
        go_enter Tryz.func94, Tryz.ntmps94
        go_wp2_with (go_at_call 158; refine (hm _).mono ?_; rintro e' w' ⟨rfl, rfl⟩)
        repeat (go_quiet (fail); try go_wp2_with (go_at_call 158; refine (hm _).mono ?_; rintro e' w' ⟨rfl, rfl⟩))
        go_ret2
        exact ⟨rfl, hg.out, (Fr.refl _ _).drewN _⟩
      | false =>
        have hq : nextS (s[i] :: r) 0 = (0, false, 81) := by unfold nextS; simp [hb]
        rw [hq]
        rw [hb] at hm
        go_enter Tryz.func94, Tryz.ntmps94
        go_wp2_with (go_at_call 158; refine (hm _).mono ?_; rintro e' w' ⟨rfl, rfl⟩)
        repeat (go_quiet (fail); try go_wp2_with (go_at_call 158; refine (hm _).mono ?_; rintro e' w' ⟨rfl, rfl⟩))
        go_ret2
        exact ⟨rfl, h2.out, Fr.setCell (S := fun b => b = g) ((Fr.refl _ W).drewN _) (p := ⟨g, 2, none⟩) (.inl rfl) _⟩
  · have hq : nextS l e = (0, false, e) := by unfold nextS; rw [if_pos he]
    have hne : (e != 0) = true := by simpa using he
    rw [hq]
    replace hg := Lib.hid hg
    clear hl cf
    replace he := Lib.hid he
    go_enter Tryz.func94, Tryz.ntmps94
    go_wp2
    repeat (go_quiet (fail); try go_wp2)
    go_ret2
    exact ⟨rfl, hg.out, (Fr.refl _ _).drewN _⟩
set_option maxRecDepth 100000 in
set_option maxHeartbeats 1600000 in
theorem until_any {W : World} {g : Nat} {s : ByteArray} {i0 : Nat} {st : Int} {R : List UInt8 × Int} (hg : W.heap[g]? = some (oSc s i0 0)) (hs : s.size < 4294967281) (hi0 : i0 ≤ s.size) (hR : runS st (s.data.toList.drop i0) = R) :
    Calls Tryz.prog 95 #[.pointer (some ⟨g, 0, none⟩), .int .i64 st] W fun e' w' => ∃ j, i0 ≤ j ∧ j ≤ s.size ∧ s.data.toList.drop j = R.1 ∧ e' = .returned (.string (s.extract i0 j)) ∧ w'.heap[g]? = some (oSc s j R.2) ∧ Fr (fun b => b = g) W w' := by
  obtain ⟨c0, c1, c2, cf⟩ := sc_cells hg
  have Hg := Lib.hid hg
  have HR := Lib.hid hR
  clear hg hR c0 c2 cf
  go_enter Tryz.func95, Tryz.ntmps95
  go_wp2
  clear c1
  go_loopw [] (fun wr => ∃ i : Nat, i0 ≤ i ∧ i ≤ s.size ∧ Hid (runS st (s.data.toList.drop i) = R) ∧ Hid (wr.heap[g]? = some (oSc s i 0)) ∧ Fr (fun b => b = g) W wr) (fun wr => s.size - (match wr.cell? ⟨g, 1, none⟩ with | some v => (intOf v).toNat | none => 0))
  case atStart => exact ⟨i0, Nat.le_refl _, hi0, HR, Hg, Fr.refl _ _⟩
  case round =>
    obtain ⟨i, h1, h2, hr, hb, fr⟩ := hrel
    obtain ⟨l, hl⟩ : ∃ l, s.data.toList.drop i = l := ⟨_, rfl⟩
    have nx := next_any hb.out h2 hl
    rw [hl] at hr
    obtain ⟨-, q1, -, -⟩ := sc_cells hb.out
    rw [q1]
    clear q1
    cases l with
    | nil =>
      have hq : nextS [] 0 = (0, false, 0) := rfl
      rw [hq] at nx
      have hR : Hid (R = ([], 0)) := Lib.hid hr.out.symm
      replace hl := Lib.hid hl
      clear hr hb
      go_wp2_with (go_at_call 94; refine nx.mono ?_; clear nx; rintro e' w2 ⟨rfl, hb2, fr2⟩; obtain ⟨c0, c1, c2, cf⟩ := sc_cells hb2; clear c2 cf; have hb2 := Lib.hid hb2; have fr3 : Fr (fun b => b = g) W w2 := fr.trans fr2 (fun b hb => .inl hb))
      go_quiet (fail)
      go_wp2
      go_ret
      exact ⟨i, h1, h2, by rw [hR.out]; exact hl.out, rfl, by rw [hR.out]; exact hb2.out, fr3.drewN _⟩
    | cons c r =>
      by_cases hm : mayB c = false
      · have hq : nextS (c :: r) 0 = (0, false, 81) := by unfold nextS; simp [hm]
        rw [hq] at nx
        have hR : Hid (R = (c :: r, 81)) := Lib.hid (by rw [← hr.out]; unfold runS; rw [if_pos hm])
        replace hl := Lib.hid hl
        clear hr hb
        go_wp2_with (go_at_call 94; refine nx.mono ?_; clear nx; rintro e' w2 ⟨rfl, hb2, fr2⟩; obtain ⟨c0, c1, c2, cf⟩ := sc_cells hb2; clear c2 cf; have hb2 := Lib.hid hb2; have fr3 : Fr (fun b => b = g) W w2 := fr.trans fr2 (fun b hb => .inl hb))
        go_quiet (fail)
        go_wp2
        go_ret
        exact ⟨i, h1, h2, by rw [hR.out]; exact hl.out, rfl, by rw [hR.out]; exact hb2.out, fr3.drewN _⟩
      · have hm2 : mayB c = true := by simpa using hm
        have hq : nextS (c :: r) 0 = ((c.toNat : Int), true, 0) := by unfold nextS; simp [hm2]
        rw [hq] at nx
        have hu := c.toNat_lt
        have hw : IntKind.i64.wrap (c.toNat : Int) = c.toNat := IntWalk.i64_in _ (by omega)
        by_cases hst : (c.toNat : Int) = st
        · have hR : Hid (R = (c :: r, 0)) := Lib.hid (by rw [← hr.out]; unfold runS; rw [if_neg hm, if_pos hst])
          have hst2 : ((c.toNat : Int) == st) = true := by simpa using hst
          replace hl := Lib.hid hl
          replace hst := Lib.hid hst
          clear hr hb hm hm2
          go_wp2_with (go_at_call 94; refine nx.mono ?_; clear nx; rintro e' w2 ⟨rfl, hb2, fr2⟩; obtain ⟨c0, c1, c2, cf⟩ := sc_cells hb2; clear c2 cf; have hb2 := Lib.hid hb2; have fr3 : Fr (fun b => b = g) W w2 := fr.trans fr2 (fun b hb => .inl hb))
          go_quiet (fail)
          go_wp2
          go_ret
          exact ⟨i, h1, h2, by rw [hR.out]; exact hl.out, rfl, by rw [hR.out]; exact hb2.out, fr3.drewN _⟩
        · obtain ⟨hlt, -, hd⟩ := drop_cons hl
          have hR : Hid (runS st (s.data.toList.drop (i + 1)) = R) := Lib.hid (by rw [hd, ← hr.out]; conv => rhs; unfold runS; rw [if_neg hm, if_neg hst])
          have hst2 : ((c.toNat : Int) == st) = false := by simpa using hst
          have hw2 : IntKind.i64.wrap ((i : Int) + 1) = ((i + 1 : Nat) : Int) := (IntWalk.i64_in _ (by omega)).trans (by omega)
          replace hl := Lib.hid hl
          replace hst := Lib.hid hst
          clear hr hb hm hm2 hd
          go_wp2_with (go_at_call 94; refine nx.mono ?_; clear nx; rintro e' w2 ⟨rfl, hb2, fr2⟩; obtain ⟨c0, c1, c2, cf⟩ := sc_cells hb2; have f1 := cf 1; clear c2 cf; have hb3 : Hid ((w2.setCell ⟨g, 1, none⟩ (.int .i64 ((i : Int) + 1))).heap[g]? = some (oSc s ((i + 1 : Nat) : Int) 0)) := Lib.hid ((sc_set hb2).1 _); have fr3 : Fr (fun b => b = g) W w2 := fr.trans fr2 (fun b hb => .inl hb))
          refine ⟨⟨i + 1, by omega, by omega, hR, hb3, Fr.setCell fr3 (p := ⟨g, 1, none⟩) (.inl rfl) _⟩, ?_⟩
          rw [(sc_cells hb3.out).2.1]
          simp [intOf]; omega
end Go.Proofs.YtnljjlaececnkaaGreatDoor
/-
  strings.Builder's WriteByte laid at this dump; a quoted word is read. No condition.
-/
namespace Go.Proofs.YtnljjlaececnkaaGreatDoor
open Go.RowKit
set_option linter.unusedVariables false
set_option linter.unusedSimpArgs false
def lays167_ren : Go.Shelf.Ren := ⟨fun | 167 => 160 | 240 => 201 | 276 => 249 | n => n, fun | 70 => 207 | 75 => 158 | 80 => 142 | 3 => 3 | 0 => 0 | 4 => 4 | 9 => 9 | 20 => 20 | 72 => 209 | 37 => 150 | 164 => 310 | 5 => 5 | n => n, fun | n => n⟩
theorem lays167 : Go.Proofs.Lays.n167 Tryz.prog lays167_ren := {
  mixed := by kernel_rfl
  f167 := Tryz.func160.trans (congrArg some (by kernel_rfl))
  f240 := Tryz.func201.trans (congrArg some (by kernel_rfl))
  f276 := Tryz.func249.trans (congrArg some (by kernel_rfl))
  t0 := Tryz.underlying0
  a0 := Tryz.isAgg0
  z0 := Tryz.sizeOf0
  v0 := Tryz.zeroValue0
  t4 := Tryz.underlying4
  a4 := Tryz.isAgg4
  z4 := Tryz.sizeOf4
  v4 := Tryz.zeroValue4
  t5 := Tryz.underlying5
  a5 := Tryz.isAgg5
  z5 := Tryz.sizeOf5
  v5 := Tryz.zeroValue5
  t9 := Tryz.underlying9
  a9 := Tryz.isAgg9
  z9 := Tryz.sizeOf9
  v9 := Tryz.zeroValue9
  t20 := Tryz.underlying20
  a20 := Tryz.isAgg20
  z20 := Tryz.sizeOf20
  v20 := Tryz.zeroValue20
  t37 := Tryz.underlying150
  a37 := Tryz.isAgg150
  z37 := Tryz.sizeOf150
  v37 := Tryz.zeroValue150
  t70 := Tryz.underlying207
  a70 := Tryz.isAgg207
  z70 := Tryz.sizeOf207
  v70 := Tryz.zeroValue207
  t72 := Tryz.underlying209
  a72 := Tryz.isAgg209
  z72 := Tryz.sizeOf209
  v72 := Tryz.zeroValue209
  t75 := Tryz.underlying158
  a75 := Tryz.isAgg158
  z75 := Tryz.sizeOf158
  v75 := Tryz.zeroValue158
  t164 := Tryz.underlying310
  a164 := Tryz.isAgg310
  z164 := Tryz.sizeOf310
  v164 := Tryz.zeroValue310 }
theorem builder_extra_167 : Builder.Extra Tryz.prog lays167_ren := {
  sizeBuilder := by kernel_rfl
  liesBuilder := by kernel_rfl
  t5 := Tryz.underlying5
  a5 := Tryz.isAgg5
  z5 := Tryz.sizeOf5
  v5 := Tryz.zeroValue5
  infoByte := by kernel_rfl
  cellsByte := by kernel_rfl
  sizeByte := by kernel_rfl
  neB5 := by decide }
/-- A quoted word behind its first mark: the word, what is left, the fault. -/
def quotS : List UInt8 → List UInt8 → List UInt8 × List UInt8 × Int
  | [], _ => ([], [], 80)
  | c :: r, acc =>
    if mayB c = false then ([], c :: r, 81)
    else if c = 34 then (match r with
      | [] => (acc, [], 0)
      | d :: r2 => if mayB d = false then ([], d :: r2, 81) else if d = 32 then (acc, d :: r2, 0) else ([], d :: r2, 80))
    else if c = 92 then (match r with
      | [] => ([], [], 80)
      | d :: r2 => if mayB d = false then ([], d :: r2, 81) else if d = 34 ∨ d = 92 then quotS r2 (acc ++ [d]) else ([], d :: r2, 80))
    else quotS r (acc ++ [c])
theorem bld_fr {S : Nat → Prop} {B b : Nat} {bs : List Value} {w w' : World} (h : Lib.IsBuilder 209 5 B b bs w) (hf : Fr S w w') (hS : ∀ k, S k → k < B) : Lib.IsBuilder 209 5 B b bs w' := by
  have key : ∀ p, Lib.BuilderAt 209 5 B b p bs w → Lib.BuilderAt 209 5 B b p bs w' := by
    rintro p ⟨hB, v, hb, ⟨hl, ⟨hv, h0⟩ | ⟨k, cap, cur, hv, hk, hh, r⟩⟩, hne⟩
    · exact ⟨hB, v, hf.obj hb (fun hs => by have := hS _ hs; omega), ⟨hl, .inl ⟨hv, h0⟩⟩, hne⟩
    · exact ⟨hB, v, hf.obj hb (fun hs => by have := hS _ hs; omega), ⟨hl, .inr ⟨k, cap, cur, hv, hk, hf.obj hh (fun hs => by have := hS _ hs; omega), r⟩⟩, hne⟩
  exact h.elim (fun x => .inl (key _ x)) (fun x => .inr (key _ x))
theorem write_any {B b : Nat} {acc : List UInt8} {c : UInt8} {w : World} (h : Lib.IsBuilder 209 5 B b (Lib.byteCells acc) w) (hl : acc.length ≤ 5000000000) (hB : B ≤ w.heap.size) :
    Calls Tryz.prog 160 #[.pointer (some ⟨b, 0, none⟩), .int .u8 c.toNat] w fun e w' => e = .returned .nilIface ∧ Lib.IsBuilder 209 5 B b (Lib.byteCells (acc ++ [c])) w' ∧ Below B w w' := by
  refine (Any.Builder_WriteByte lays167 builder_extra_167 B b (Lib.byteCells acc) c.toNat w h (by rw [Lib.byteCells_length]; omega) hB).mono ?_
  rintro e w' ⟨h1, h2, h3⟩
  refine ⟨h1, .inr ?_, h3⟩
  have : Lib.byteCells (acc ++ [c]) = Lib.byteCells acc ++ [.int .u8 c.toNat] := by simp [Lib.byteCells]
  rw [this]; exact h2
set_option maxRecDepth 100000 in
set_option maxHeartbeats 12800000 in
theorem quoted_any {W : World} {g : Nat} {s : ByteArray} {i0 : Nat} {R : List UInt8 × List UInt8 × Int} (hg : W.heap[g]? = some (oSc s i0 0)) (hs : s.size < 4294967281) (hi0 : i0 ≤ s.size) (hR : quotS (s.data.toList.drop i0) [] = R) :
    Calls Tryz.prog 96 #[.pointer (some ⟨g, 0, none⟩)] W fun e' w' => ∃ x j, e' = .returned (.string x) ∧ j ≤ s.size ∧ (R.2.2 = 0 → x = ⟨R.1.toArray⟩ ∧ s.data.toList.drop j = R.2.1) ∧ w'.heap[g]? = some (oSc s j R.2.2) ∧ Fr (fun b => b = g) W w' := by
  have hgl := lt_of_obj hg
  have hbl := Lib.hid (Lib.fresh_isBuilder 209 5 W)
  have Hg := Lib.hid (Below.box hg ((Below.refl W.heap.size W).alloc (Nat.le_refl _) (.cells #[.pointer none, .slice none 0 0] 209)) hgl)
  have HR := Lib.hid hR
  have fr0 := (Fr.refl (fun b => b = g) W).alloc (.cells #[.pointer none, .slice none 0 0] 209)
  clear hg hR
  go_enter Tryz.func96, Tryz.ntmps96
  go_wp2
  go_step3
  go_wp2
  go_step3
  go_wp2
  go_loopw [] (fun wr => ∃ (i : Nat) (acc : List UInt8), i0 ≤ i ∧ i ≤ s.size ∧ acc.length ≤ i ∧ Hid (quotS (s.data.toList.drop i) acc = R) ∧ Hid (wr.heap[g]? = some (oSc s i 0)) ∧ Hid (Lib.IsBuilder 209 5 W.heap.size W.heap.size (Lib.byteCells acc) wr) ∧ Fr (fun b => b = g) W wr) (fun wr => s.size - (match wr.cell? ⟨g, 1, none⟩ with | some v => (intOf v).toNat | none => 0))
  case atStart => exact ⟨i0, [], Nat.le_refl _, hi0, by simp, HR, Hg, hbl, fr0⟩
  case round =>
    obtain ⟨i, acc, h1, h2, h3, hr, hb, hbl, fr⟩ := hrel
    obtain ⟨l, hl⟩ : ∃ l, s.data.toList.drop i = l := ⟨_, rfl⟩
    have nx := next_any hb.out h2 hl
    rw [hl] at hr
    obtain ⟨-, q1, -, -⟩ := sc_cells hb.out
    rw [q1]
    clear q1
    cases l with
    | nil =>
      have hq : nextS [] 0 = (0, false, 0) := rfl
      rw [hq] at nx
      have hR : Hid (R = ([], [], 80)) := Lib.hid hr.out.symm
      clear hr hb
      go_wp2_with (go_at_call 94; refine nx.mono ?_; clear nx; rintro e' w2 ⟨rfl, hb2, fr2⟩; obtain ⟨c0, c1, c2, cf⟩ := sc_cells hb2; have f1 := cf 1; have f2 := cf 2; clear cf; have fr3 : Fr (fun b => b = g) W w2 := fr.trans fr2 (fun b hb => .inl hb); have hbl2 := Lib.hid (bld_fr hbl.out fr2 (fun k hk => by omega)); have hb2 := Lib.hid hb2)
      rw [Exit.noGoto_ret]
      go_ret
      exact ⟨_, i, rfl, h2, fun h => absurd h (by rw [hR.out]; simp), by rw [hR.out]; exact (sc_set hb2.out).2 80, Fr.setCell fr3 (p := ⟨g, 2, none⟩) (.inl rfl) _⟩
    | cons c r =>
      by_cases hm : mayB c = false
      · have hq : nextS (c :: r) 0 = (0, false, 81) := by unfold nextS; simp [hm]
        rw [hq] at nx
        have hR : Hid (R = ([], c :: r, 81)) := Lib.hid (by rw [← hr.out]; unfold quotS; rw [if_pos hm])
        clear hr hb
        go_wp2_with (go_at_call 94; refine nx.mono ?_; clear nx; rintro e' w2 ⟨rfl, hb2, fr2⟩; obtain ⟨c0, c1, c2, cf⟩ := sc_cells hb2; have f1 := cf 1; have f2 := cf 2; clear cf; have fr3 : Fr (fun b => b = g) W w2 := fr.trans fr2 (fun b hb => .inl hb); have hbl2 := Lib.hid (bld_fr hbl.out fr2 (fun k hk => by omega)); have hb2 := Lib.hid hb2)
        rw [Exit.noGoto_ret]
        go_ret
        exact ⟨_, i, rfl, h2, fun h => absurd h (by rw [hR.out]; simp), by rw [hR.out]; exact hb2.out, fr3⟩
      · have hm2 : mayB c = true := by simpa using hm
        have hq : nextS (c :: r) 0 = ((c.toNat : Int), true, 0) := by unfold nextS; simp [hm2]
        rw [hq] at nx
        obtain ⟨hlt, -, hd⟩ := drop_cons hl
        have hw2 : IntKind.i64.wrap ((i : Int) + 1) = ((i + 1 : Nat) : Int) := (IntWalk.i64_in _ (by omega)).trans (by omega)
        by_cases h34 : c = 34
        · subst h34
          rw [show ((34 : UInt8).toNat : Int) = 34 from rfl] at nx
          have hd' := Lib.hid hd
          cases r with
          | nil =>
            have hq2 : nextS [] 0 = (0, false, 0) := rfl
            have hR : Hid (R = (acc, [], 0)) := Lib.hid (by rw [← hr.out]; unfold quotS; rw [if_neg hm, if_pos rfl])
            clear hr hb hm hm2
            go_wp2_with (first | (go_at_call 94; refine nx.mono ?_; clear nx; rintro e' w2 ⟨rfl, hb2, fr2⟩; obtain ⟨c0, c1, c2, cf⟩ := sc_cells hb2; have f1 := cf 1; have f2 := cf 2; clear cf; have fr3 : Fr (fun b => b = g) W w2 := fr.trans fr2 (fun b hb => .inl hb); have hbl2 := Lib.hid (bld_fr hbl.out fr2 (fun k hk => by omega)); have hb3 : (w2.setCell ⟨g, 1, none⟩ (.int .i64 ((i : Int) + 1))).heap[g]? = some (oSc s ((i + 1 : Nat) : Int) 0) := (sc_set hb2).1 _; have fr4 : Fr (fun b => b = g) W (w2.setCell ⟨g, 1, none⟩ (.int .i64 ((i : Int) + 1))) := Fr.setCell fr3 (p := ⟨g, 1, none⟩) (.inl rfl) _; have hbl3 := Lib.hid (bld_fr hbl2.out (Fr.setCell (S := fun b => b = g) (Fr.refl _ w2) (p := ⟨g, 1, none⟩) (.inl rfl) (.int .i64 ((i : Int) + 1))) (fun k hk => by omega)); have hsz3 := fr4.size; have nx2 := next_any hb3 (by omega) hd; rw [hq2] at nx2; have hb2 := Lib.hid hb2; have hb3 := Lib.hid hb3) | (go_at_call 94; refine nx2.mono ?_; clear nx2; rintro e' w4 ⟨rfl, hb4, fr5⟩; obtain ⟨c0, c1, c2, cf⟩ := sc_cells hb4; have f1 := cf 1; have f2 := cf 2; clear cf c0; have fr6 : Fr (fun b => b = g) W w4 := fr4.trans fr5 (fun b hb => .inl hb); have hsz4 := fr6.size; have hbl4 := Lib.hid (bld_fr hbl3.out fr5 (fun k hk => by omega)); have hb4 := Lib.hid hb4) | (go_at_call 159; refine (Tryz.Builder_String_any W.heap.size W.heap.size acc _ hbl4.out hsz4).mono ?_; rintro e' w5 ⟨rfl, bel5⟩))
            rw [Exit.noGoto_ret]
            go_ret
            exact ⟨_, i + 1, rfl, by omega, fun h => ⟨by rw [hR.out], by rw [hR.out]; exact hd'.out⟩, by rw [hR.out]; exact Below.box hb4.out bel5 hgl, fr6.trans (Fr.ofB bel5) (fun b hb => .inr hb)⟩
          | cons d r2 =>
            by_cases hm3 : mayB d = false
            · have hq2 : nextS (d :: r2) 0 = (0, false, 81) := by unfold nextS; simp [hm3]
              have hR : Hid (R = ([], d :: r2, 81)) := Lib.hid (by rw [← hr.out]; unfold quotS; rw [if_neg hm, if_pos rfl]; exact if_pos hm3)
              clear hr hb hm hm2
              go_wp2_with (first | (go_at_call 94; refine nx.mono ?_; clear nx; rintro e' w2 ⟨rfl, hb2, fr2⟩; obtain ⟨c0, c1, c2, cf⟩ := sc_cells hb2; have f1 := cf 1; have f2 := cf 2; clear cf; have fr3 : Fr (fun b => b = g) W w2 := fr.trans fr2 (fun b hb => .inl hb); have hbl2 := Lib.hid (bld_fr hbl.out fr2 (fun k hk => by omega)); have hb3 : (w2.setCell ⟨g, 1, none⟩ (.int .i64 ((i : Int) + 1))).heap[g]? = some (oSc s ((i + 1 : Nat) : Int) 0) := (sc_set hb2).1 _; have fr4 : Fr (fun b => b = g) W (w2.setCell ⟨g, 1, none⟩ (.int .i64 ((i : Int) + 1))) := Fr.setCell fr3 (p := ⟨g, 1, none⟩) (.inl rfl) _; have hbl3 := Lib.hid (bld_fr hbl2.out (Fr.setCell (S := fun b => b = g) (Fr.refl _ w2) (p := ⟨g, 1, none⟩) (.inl rfl) (.int .i64 ((i : Int) + 1))) (fun k hk => by omega)); have hsz3 := fr4.size; have nx2 := next_any hb3 (by omega) hd; rw [hq2] at nx2; have hb2 := Lib.hid hb2; have hb3 := Lib.hid hb3) | (go_at_call 94; refine nx2.mono ?_; clear nx2; rintro e' w4 ⟨rfl, hb4, fr5⟩; obtain ⟨c0, c1, c2, cf⟩ := sc_cells hb4; have f1 := cf 1; have f2 := cf 2; clear cf c0; have fr6 : Fr (fun b => b = g) W w4 := fr4.trans fr5 (fun b hb => .inl hb); have hsz4 := fr6.size; have hbl4 := Lib.hid (bld_fr hbl3.out fr5 (fun k hk => by omega)); have hb4 := Lib.hid hb4) | (go_at_call 159; refine (Tryz.Builder_String_any W.heap.size W.heap.size acc _ hbl4.out hsz4).mono ?_; rintro e' w5 ⟨rfl, bel5⟩))
              rw [Exit.noGoto_ret]
              go_ret
              exact ⟨_, i + 1, rfl, by omega, fun h => absurd h (by rw [hR.out]; simp), by rw [hR.out]; exact Below.box hb4.out bel5 hgl, fr6.trans (Fr.ofB bel5) (fun b hb => .inr hb)⟩
            · have hm4 : mayB d = true := by simpa using hm3
              have hq2 : nextS (d :: r2) 0 = ((d.toNat : Int), true, 0) := by unfold nextS; simp [hm4]
              by_cases h32 : d = 32
              · subst h32
                rw [show ((32 : UInt8).toNat : Int) = 32 from rfl] at hq2
                have hR : Hid (R = (acc, 32 :: r2, 0)) := Lib.hid (by rw [← hr.out]; unfold quotS; rw [if_neg hm, if_pos rfl]; exact (if_neg hm3).trans (if_pos rfl))
                clear hr hb hm hm2
                go_wp2_with (first | (go_at_call 94; refine nx.mono ?_; clear nx; rintro e' w2 ⟨rfl, hb2, fr2⟩; obtain ⟨c0, c1, c2, cf⟩ := sc_cells hb2; have f1 := cf 1; have f2 := cf 2; clear cf; have fr3 : Fr (fun b => b = g) W w2 := fr.trans fr2 (fun b hb => .inl hb); have hbl2 := Lib.hid (bld_fr hbl.out fr2 (fun k hk => by omega)); have hb3 : (w2.setCell ⟨g, 1, none⟩ (.int .i64 ((i : Int) + 1))).heap[g]? = some (oSc s ((i + 1 : Nat) : Int) 0) := (sc_set hb2).1 _; have fr4 : Fr (fun b => b = g) W (w2.setCell ⟨g, 1, none⟩ (.int .i64 ((i : Int) + 1))) := Fr.setCell fr3 (p := ⟨g, 1, none⟩) (.inl rfl) _; have hbl3 := Lib.hid (bld_fr hbl2.out (Fr.setCell (S := fun b => b = g) (Fr.refl _ w2) (p := ⟨g, 1, none⟩) (.inl rfl) (.int .i64 ((i : Int) + 1))) (fun k hk => by omega)); have hsz3 := fr4.size; have nx2 := next_any hb3 (by omega) hd; rw [hq2] at nx2; have hb2 := Lib.hid hb2; have hb3 := Lib.hid hb3) | (go_at_call 94; refine nx2.mono ?_; clear nx2; rintro e' w4 ⟨rfl, hb4, fr5⟩; obtain ⟨c0, c1, c2, cf⟩ := sc_cells hb4; have f1 := cf 1; have f2 := cf 2; clear cf c0; have fr6 : Fr (fun b => b = g) W w4 := fr4.trans fr5 (fun b hb => .inl hb); have hsz4 := fr6.size; have hbl4 := Lib.hid (bld_fr hbl3.out fr5 (fun k hk => by omega)); have hb4 := Lib.hid hb4) | (go_at_call 159; refine (Tryz.Builder_String_any W.heap.size W.heap.size acc _ hbl4.out hsz4).mono ?_; rintro e' w5 ⟨rfl, bel5⟩))
                rw [Exit.noGoto_ret]
                go_ret
                exact ⟨_, i + 1, rfl, by omega, fun h => ⟨by rw [hR.out], by rw [hR.out]; exact hd'.out⟩, by rw [hR.out]; exact Below.box hb4.out bel5 hgl, fr6.trans (Fr.ofB bel5) (fun b hb => .inr hb)⟩
              · have hb1 : ((d.toNat : Int) != 32) = true := by have hn : d.toNat ≠ 32 := fun e => h32 (UInt8.toNat_inj.1 e); exact bne_iff_ne.mpr (by omega)
                have hR : Hid (R = ([], d :: r2, 80)) := Lib.hid (by rw [← hr.out]; unfold quotS; rw [if_neg hm, if_pos rfl]; exact (if_neg hm3).trans (if_neg h32))
                clear hr hb hm hm2
                go_wp2_with (first | (go_at_call 94; refine nx.mono ?_; clear nx; rintro e' w2 ⟨rfl, hb2, fr2⟩; obtain ⟨c0, c1, c2, cf⟩ := sc_cells hb2; have f1 := cf 1; have f2 := cf 2; clear cf; have fr3 : Fr (fun b => b = g) W w2 := fr.trans fr2 (fun b hb => .inl hb); have hbl2 := Lib.hid (bld_fr hbl.out fr2 (fun k hk => by omega)); have hb3 : (w2.setCell ⟨g, 1, none⟩ (.int .i64 ((i : Int) + 1))).heap[g]? = some (oSc s ((i + 1 : Nat) : Int) 0) := (sc_set hb2).1 _; have fr4 : Fr (fun b => b = g) W (w2.setCell ⟨g, 1, none⟩ (.int .i64 ((i : Int) + 1))) := Fr.setCell fr3 (p := ⟨g, 1, none⟩) (.inl rfl) _; have hbl3 := Lib.hid (bld_fr hbl2.out (Fr.setCell (S := fun b => b = g) (Fr.refl _ w2) (p := ⟨g, 1, none⟩) (.inl rfl) (.int .i64 ((i : Int) + 1))) (fun k hk => by omega)); have hsz3 := fr4.size; have nx2 := next_any hb3 (by omega) hd; rw [hq2] at nx2; have hb2 := Lib.hid hb2; have hb3 := Lib.hid hb3) | (go_at_call 94; refine nx2.mono ?_; clear nx2; rintro e' w4 ⟨rfl, hb4, fr5⟩; obtain ⟨c0, c1, c2, cf⟩ := sc_cells hb4; have f1 := cf 1; have f2 := cf 2; clear cf c0; have fr6 : Fr (fun b => b = g) W w4 := fr4.trans fr5 (fun b hb => .inl hb); have hsz4 := fr6.size; have hbl4 := Lib.hid (bld_fr hbl3.out fr5 (fun k hk => by omega)); have hb4 := Lib.hid hb4))
                rw [Exit.noGoto_ret]
                go_ret
                exact ⟨_, i + 1, rfl, by omega, fun h => absurd h (by rw [hR.out]; simp), by rw [hR.out]; exact (sc_set hb4.out).2 80, Fr.setCell fr6 (p := ⟨g, 2, none⟩) (.inl rfl) _⟩
        · by_cases h92 : c = 92
          · subst h92
            rw [show ((92 : UInt8).toNat : Int) = 92 from rfl] at nx
            have hd' := Lib.hid hd
            cases r with
            | nil =>
              have hq2 : nextS [] 0 = (0, false, 0) := rfl
              have hR : Hid (R = ([], [], 80)) := Lib.hid (by rw [← hr.out]; unfold quotS; rw [if_neg hm, if_neg (by decide), if_pos rfl])
              clear hr hb hm hm2
              go_wp2_with (first | (go_at_call 94; refine nx.mono ?_; clear nx; rintro e' w2 ⟨rfl, hb2, fr2⟩; obtain ⟨c0, c1, c2, cf⟩ := sc_cells hb2; have f1 := cf 1; have f2 := cf 2; clear cf; have fr3 : Fr (fun b => b = g) W w2 := fr.trans fr2 (fun b hb => .inl hb); have hbl2 := Lib.hid (bld_fr hbl.out fr2 (fun k hk => by omega)); have hb3 : (w2.setCell ⟨g, 1, none⟩ (.int .i64 ((i : Int) + 1))).heap[g]? = some (oSc s ((i + 1 : Nat) : Int) 0) := (sc_set hb2).1 _; have fr4 : Fr (fun b => b = g) W (w2.setCell ⟨g, 1, none⟩ (.int .i64 ((i : Int) + 1))) := Fr.setCell fr3 (p := ⟨g, 1, none⟩) (.inl rfl) _; have hbl3 := Lib.hid (bld_fr hbl2.out (Fr.setCell (S := fun b => b = g) (Fr.refl _ w2) (p := ⟨g, 1, none⟩) (.inl rfl) (.int .i64 ((i : Int) + 1))) (fun k hk => by omega)); have hsz3 := fr4.size; have nx2 := next_any hb3 (by omega) hd; rw [hq2] at nx2; have hb2 := Lib.hid hb2; have hb3 := Lib.hid hb3) | (go_at_call 94; refine nx2.mono ?_; clear nx2; rintro e' w4 ⟨rfl, hb4, fr5⟩; obtain ⟨c0, c1, c2, cf⟩ := sc_cells hb4; have f1 := cf 1; have f2 := cf 2; clear cf c0; have fr6 : Fr (fun b => b = g) W w4 := fr4.trans fr5 (fun b hb => .inl hb); have hsz4 := fr6.size; have hbl4 := Lib.hid (bld_fr hbl3.out fr5 (fun k hk => by omega)); have hb4 := Lib.hid hb4))
              rw [Exit.noGoto_ret]
              go_ret
              exact ⟨_, i + 1, rfl, by omega, fun h => absurd h (by rw [hR.out]; simp), by rw [hR.out]; exact (sc_set hb4.out).2 80, Fr.setCell fr6 (p := ⟨g, 2, none⟩) (.inl rfl) _⟩
            | cons d r2 =>
              by_cases hm3 : mayB d = false
              · have hq2 : nextS (d :: r2) 0 = (0, false, 81) := by unfold nextS; simp [hm3]
                have hR : Hid (R = ([], d :: r2, 81)) := Lib.hid (by rw [← hr.out]; unfold quotS; rw [if_neg hm, if_neg (by decide), if_pos rfl]; exact if_pos hm3)
                clear hr hb hm hm2
                go_wp2_with (first | (go_at_call 94; refine nx.mono ?_; clear nx; rintro e' w2 ⟨rfl, hb2, fr2⟩; obtain ⟨c0, c1, c2, cf⟩ := sc_cells hb2; have f1 := cf 1; have f2 := cf 2; clear cf; have fr3 : Fr (fun b => b = g) W w2 := fr.trans fr2 (fun b hb => .inl hb); have hbl2 := Lib.hid (bld_fr hbl.out fr2 (fun k hk => by omega)); have hb3 : (w2.setCell ⟨g, 1, none⟩ (.int .i64 ((i : Int) + 1))).heap[g]? = some (oSc s ((i + 1 : Nat) : Int) 0) := (sc_set hb2).1 _; have fr4 : Fr (fun b => b = g) W (w2.setCell ⟨g, 1, none⟩ (.int .i64 ((i : Int) + 1))) := Fr.setCell fr3 (p := ⟨g, 1, none⟩) (.inl rfl) _; have hbl3 := Lib.hid (bld_fr hbl2.out (Fr.setCell (S := fun b => b = g) (Fr.refl _ w2) (p := ⟨g, 1, none⟩) (.inl rfl) (.int .i64 ((i : Int) + 1))) (fun k hk => by omega)); have hsz3 := fr4.size; have nx2 := next_any hb3 (by omega) hd; rw [hq2] at nx2; have hb2 := Lib.hid hb2; have hb3 := Lib.hid hb3) | (go_at_call 94; refine nx2.mono ?_; clear nx2; rintro e' w4 ⟨rfl, hb4, fr5⟩; obtain ⟨c0, c1, c2, cf⟩ := sc_cells hb4; have f1 := cf 1; have f2 := cf 2; clear cf c0; have fr6 : Fr (fun b => b = g) W w4 := fr4.trans fr5 (fun b hb => .inl hb); have hsz4 := fr6.size; have hbl4 := Lib.hid (bld_fr hbl3.out fr5 (fun k hk => by omega)); have hb4 := Lib.hid hb4))
                rw [Exit.noGoto_ret]
                go_ret
                exact ⟨_, i + 1, rfl, by omega, fun h => absurd h (by rw [hR.out]; simp), by rw [hR.out]; exact hb4.out, fr6⟩
              · have hm4 : mayB d = true := by simpa using hm3
                have hq2 : nextS (d :: r2) 0 = ((d.toNat : Int), true, 0) := by unfold nextS; simp [hm4]
                obtain ⟨hlt2, -, hd2⟩ := drop_cons hd
                have hd2 := Lib.hid hd2
                have hw3 : IntKind.i64.wrap ((i : Int) + 1 + 1) = ((i + 2 : Nat) : Int) := (IntWalk.i64_in _ (by omega)).trans (by omega)
                by_cases hd34 : d = 34
                · subst hd34
                  rw [show ((34 : UInt8).toNat : Int) = 34 from rfl] at hq2
                  have hR : Hid (quotS r2 (acc ++ [34]) = R) := Lib.hid (by rw [← hr.out, quotS, if_neg hm, if_neg (by decide), if_pos rfl]; exact ((if_neg hm3).trans (if_pos (by decide))).symm)
                  clear hr hb hm hm2
                  go_wp2_with (first | (go_at_call 94; refine nx.mono ?_; clear nx; rintro e' w2 ⟨rfl, hb2, fr2⟩; obtain ⟨c0, c1, c2, cf⟩ := sc_cells hb2; have f1 := cf 1; have f2 := cf 2; clear cf; have fr3 : Fr (fun b => b = g) W w2 := fr.trans fr2 (fun b hb => .inl hb); have hbl2 := Lib.hid (bld_fr hbl.out fr2 (fun k hk => by omega)); have hb3 : (w2.setCell ⟨g, 1, none⟩ (.int .i64 ((i : Int) + 1))).heap[g]? = some (oSc s ((i + 1 : Nat) : Int) 0) := (sc_set hb2).1 _; have fr4 : Fr (fun b => b = g) W (w2.setCell ⟨g, 1, none⟩ (.int .i64 ((i : Int) + 1))) := Fr.setCell fr3 (p := ⟨g, 1, none⟩) (.inl rfl) _; have hbl3 := Lib.hid (bld_fr hbl2.out (Fr.setCell (S := fun b => b = g) (Fr.refl _ w2) (p := ⟨g, 1, none⟩) (.inl rfl) (.int .i64 ((i : Int) + 1))) (fun k hk => by omega)); have hsz3 := fr4.size; have nx2 := next_any hb3 (by omega) hd; rw [hq2] at nx2; have hb2 := Lib.hid hb2; have hb3 := Lib.hid hb3) | (go_at_call 94; refine nx2.mono ?_; clear nx2; rintro e' w4 ⟨rfl, hb4, fr5⟩; obtain ⟨c0, c1, c2, cf⟩ := sc_cells hb4; have f1 := cf 1; have f2 := cf 2; clear cf c0; have fr6 : Fr (fun b => b = g) W w4 := fr4.trans fr5 (fun b hb => .inl hb); have hsz4 := fr6.size; have hbl4 := Lib.hid (bld_fr hbl3.out fr5 (fun k hk => by omega)); have hb5 : (w4.setCell ⟨g, 1, none⟩ (.int .i64 ((i : Int) + 1 + 1))).heap[g]? = some (oSc s ((i + 2 : Nat) : Int) 0) := (sc_set hb4).1 _; have fr7 : Fr (fun b => b = g) W (w4.setCell ⟨g, 1, none⟩ (.int .i64 ((i : Int) + 1 + 1))) := Fr.setCell fr6 (p := ⟨g, 1, none⟩) (.inl rfl) _; have hbl5 := Lib.hid (bld_fr hbl4.out (Fr.setCell (S := fun b => b = g) (Fr.refl _ w4) (p := ⟨g, 1, none⟩) (.inl rfl) (.int .i64 ((i : Int) + 1 + 1))) (fun k hk => by omega)); have hsz5 := fr7.size; have hb4 := Lib.hid hb4; have hb5 := Lib.hid hb5) | (go_at_call 160; refine (write_any (c := 34) hbl5.out (by omega) (by omega)).mono ?_; rintro e' w6 ⟨rfl, hbl6, bel6⟩))
                  have hb6 := Lib.hid (Below.box hb5.out bel6 hgl)
                  refine ⟨⟨i + 2, acc ++ [34], by omega, by omega, by simp; omega, Lib.hid (by rw [hd2.out]; exact hR.out), hb6, Lib.hid hbl6, fr7.trans (Fr.ofB bel6) (fun b hb => .inr hb)⟩, ?_⟩
                  rw [(sc_cells hb6.out).2.1]
                  simp [intOf]; omega
                · by_cases hd92 : d = 92
                  · subst hd92
                    rw [show ((92 : UInt8).toNat : Int) = 92 from rfl] at hq2
                    have hR : Hid (quotS r2 (acc ++ [92]) = R) := Lib.hid (by rw [← hr.out, quotS, if_neg hm, if_neg (by decide), if_pos rfl]; exact ((if_neg hm3).trans (if_pos (by decide))).symm)
                    clear hr hb hm hm2
                    go_wp2_with (first | (go_at_call 94; refine nx.mono ?_; clear nx; rintro e' w2 ⟨rfl, hb2, fr2⟩; obtain ⟨c0, c1, c2, cf⟩ := sc_cells hb2; have f1 := cf 1; have f2 := cf 2; clear cf; have fr3 : Fr (fun b => b = g) W w2 := fr.trans fr2 (fun b hb => .inl hb); have hbl2 := Lib.hid (bld_fr hbl.out fr2 (fun k hk => by omega)); have hb3 : (w2.setCell ⟨g, 1, none⟩ (.int .i64 ((i : Int) + 1))).heap[g]? = some (oSc s ((i + 1 : Nat) : Int) 0) := (sc_set hb2).1 _; have fr4 : Fr (fun b => b = g) W (w2.setCell ⟨g, 1, none⟩ (.int .i64 ((i : Int) + 1))) := Fr.setCell fr3 (p := ⟨g, 1, none⟩) (.inl rfl) _; have hbl3 := Lib.hid (bld_fr hbl2.out (Fr.setCell (S := fun b => b = g) (Fr.refl _ w2) (p := ⟨g, 1, none⟩) (.inl rfl) (.int .i64 ((i : Int) + 1))) (fun k hk => by omega)); have hsz3 := fr4.size; have nx2 := next_any hb3 (by omega) hd; rw [hq2] at nx2; have hb2 := Lib.hid hb2; have hb3 := Lib.hid hb3) | (go_at_call 94; refine nx2.mono ?_; clear nx2; rintro e' w4 ⟨rfl, hb4, fr5⟩; obtain ⟨c0, c1, c2, cf⟩ := sc_cells hb4; have f1 := cf 1; have f2 := cf 2; clear cf c0; have fr6 : Fr (fun b => b = g) W w4 := fr4.trans fr5 (fun b hb => .inl hb); have hsz4 := fr6.size; have hbl4 := Lib.hid (bld_fr hbl3.out fr5 (fun k hk => by omega)); have hb5 : (w4.setCell ⟨g, 1, none⟩ (.int .i64 ((i : Int) + 1 + 1))).heap[g]? = some (oSc s ((i + 2 : Nat) : Int) 0) := (sc_set hb4).1 _; have fr7 : Fr (fun b => b = g) W (w4.setCell ⟨g, 1, none⟩ (.int .i64 ((i : Int) + 1 + 1))) := Fr.setCell fr6 (p := ⟨g, 1, none⟩) (.inl rfl) _; have hbl5 := Lib.hid (bld_fr hbl4.out (Fr.setCell (S := fun b => b = g) (Fr.refl _ w4) (p := ⟨g, 1, none⟩) (.inl rfl) (.int .i64 ((i : Int) + 1 + 1))) (fun k hk => by omega)); have hsz5 := fr7.size; have hb4 := Lib.hid hb4; have hb5 := Lib.hid hb5) | (go_at_call 160; refine (write_any (c := 92) hbl5.out (by omega) (by omega)).mono ?_; rintro e' w6 ⟨rfl, hbl6, bel6⟩))
                    have hb6 := Lib.hid (Below.box hb5.out bel6 hgl)
                    refine ⟨⟨i + 2, acc ++ [92], by omega, by omega, by simp; omega, Lib.hid (by rw [hd2.out]; exact hR.out), hb6, Lib.hid hbl6, fr7.trans (Fr.ofB bel6) (fun b hb => .inr hb)⟩, ?_⟩
                    rw [(sc_cells hb6.out).2.1]
                    simp [intOf]; omega
                  · have hb1 : ((d.toNat : Int) != 34) = true := by have hn : d.toNat ≠ 34 := fun e => hd34 (UInt8.toNat_inj.1 e); exact bne_iff_ne.mpr (by omega)
                    have hb9 : ((d.toNat : Int) != 92) = true := by have hn : d.toNat ≠ 92 := fun e => hd92 (UInt8.toNat_inj.1 e); exact bne_iff_ne.mpr (by omega)
                    have hR : Hid (R = ([], d :: r2, 80)) := Lib.hid (by rw [← hr.out]; unfold quotS; rw [if_neg hm, if_neg (by decide), if_pos rfl]; exact (if_neg hm3).trans (if_neg (fun h => h.elim hd34 hd92)))
                    clear hr hb hm hm2
                    go_wp2_with (first | (go_at_call 94; refine nx.mono ?_; clear nx; rintro e' w2 ⟨rfl, hb2, fr2⟩; obtain ⟨c0, c1, c2, cf⟩ := sc_cells hb2; have f1 := cf 1; have f2 := cf 2; clear cf; have fr3 : Fr (fun b => b = g) W w2 := fr.trans fr2 (fun b hb => .inl hb); have hbl2 := Lib.hid (bld_fr hbl.out fr2 (fun k hk => by omega)); have hb3 : (w2.setCell ⟨g, 1, none⟩ (.int .i64 ((i : Int) + 1))).heap[g]? = some (oSc s ((i + 1 : Nat) : Int) 0) := (sc_set hb2).1 _; have fr4 : Fr (fun b => b = g) W (w2.setCell ⟨g, 1, none⟩ (.int .i64 ((i : Int) + 1))) := Fr.setCell fr3 (p := ⟨g, 1, none⟩) (.inl rfl) _; have hbl3 := Lib.hid (bld_fr hbl2.out (Fr.setCell (S := fun b => b = g) (Fr.refl _ w2) (p := ⟨g, 1, none⟩) (.inl rfl) (.int .i64 ((i : Int) + 1))) (fun k hk => by omega)); have hsz3 := fr4.size; have nx2 := next_any hb3 (by omega) hd; rw [hq2] at nx2; have hb2 := Lib.hid hb2; have hb3 := Lib.hid hb3) | (go_at_call 94; refine nx2.mono ?_; clear nx2; rintro e' w4 ⟨rfl, hb4, fr5⟩; obtain ⟨c0, c1, c2, cf⟩ := sc_cells hb4; have f1 := cf 1; have f2 := cf 2; clear cf c0; have fr6 : Fr (fun b => b = g) W w4 := fr4.trans fr5 (fun b hb => .inl hb); have hsz4 := fr6.size; have hbl4 := Lib.hid (bld_fr hbl3.out fr5 (fun k hk => by omega)); have hb4 := Lib.hid hb4))
                    rw [Exit.noGoto_ret]
                    go_ret
                    exact ⟨_, i + 1, rfl, by omega, fun h => absurd h (by rw [hR.out]; simp), by rw [hR.out]; exact (sc_set hb4.out).2 80, Fr.setCell fr6 (p := ⟨g, 2, none⟩) (.inl rfl) _⟩
          · have hb1 : ((c.toNat : Int) == 34) = false := by have hn : c.toNat ≠ 34 := fun e => h34 (UInt8.toNat_inj.1 e); exact beq_eq_false_iff_ne.mpr (by omega)
            have hb9 : ((c.toNat : Int) == 92) = false := by have hn : c.toNat ≠ 92 := fun e => h92 (UInt8.toNat_inj.1 e); exact beq_eq_false_iff_ne.mpr (by omega)
            have hR : Hid (quotS r (acc ++ [c]) = R) := Lib.hid (by rw [← hr.out]; conv => rhs; unfold quotS; rw [if_neg hm, if_neg h34, if_neg h92])
            have hd' := Lib.hid hd
            clear hr hb hm hm2 h34 h92 hd
            go_wp2_with (first | (go_at_call 94; refine nx.mono ?_; clear nx; rintro e' w2 ⟨rfl, hb2, fr2⟩; obtain ⟨c0, c1, c2, cf⟩ := sc_cells hb2; have f1 := cf 1; have f2 := cf 2; clear cf; have fr3 : Fr (fun b => b = g) W w2 := fr.trans fr2 (fun b hb => .inl hb); have hbl2 := Lib.hid (bld_fr hbl.out fr2 (fun k hk => by omega)); have hb3 : (w2.setCell ⟨g, 1, none⟩ (.int .i64 ((i : Int) + 1))).heap[g]? = some (oSc s ((i + 1 : Nat) : Int) 0) := (sc_set hb2).1 _; have fr4 : Fr (fun b => b = g) W (w2.setCell ⟨g, 1, none⟩ (.int .i64 ((i : Int) + 1))) := Fr.setCell fr3 (p := ⟨g, 1, none⟩) (.inl rfl) _; have hbl3 := Lib.hid (bld_fr hbl2.out (Fr.setCell (S := fun b => b = g) (Fr.refl _ w2) (p := ⟨g, 1, none⟩) (.inl rfl) (.int .i64 ((i : Int) + 1))) (fun k hk => by omega)); have hsz3 := fr4.size; have hb2 := Lib.hid hb2; have hb3 := Lib.hid hb3) | (go_at_call 160; refine (write_any hbl3.out (by omega) hsz3).mono ?_; rintro e' w5 ⟨rfl, hbl5, bel5⟩))
            have hb6 := Lib.hid (Below.box hb3.out bel5 hgl)
            refine ⟨⟨i + 1, acc ++ [c], by omega, by omega, by simp; omega, Lib.hid (by rw [hd'.out]; exact hR.out), hb6, Lib.hid hbl5, fr4.trans (Fr.ofB bel5) (fun b hb => .inr hb)⟩, ?_⟩
            rw [(sc_cells hb6.out).2.1]
            simp [intOf]; omega
end Go.Proofs.YtnljjlaececnkaaGreatDoor
/-
  Words. No condition but the program's bound.
-/
namespace Go.Proofs.YtnljjlaececnkaaGreatDoor
open Go.RowKit
set_option linter.unusedVariables false
set_option linter.unusedSimpArgs false
/-- What a line's words are: from here on, with these read. -/
inductive WR : List UInt8 → List ByteArray → List ByteArray × Int → Prop
  | nil (acc : List ByteArray) : WR [] acc (acc, 0)
  | bad (c : UInt8) (r : List UInt8) (acc : List ByteArray) (hm : mayB c = false) : WR (c :: r) acc ([], 81)
  | sp (r : List UInt8) (acc : List ByteArray) (R : List ByteArray × Int) (k : WR r acc R) : WR (32 :: r) acc R
  | com (r r' : List UInt8) (acc : List ByteArray) (R : List ByteArray × Int) (h : runS (-1) (35 :: r) = (r', 0)) (k : WR r' acc R) : WR (35 :: r) acc R
  | comE (r r' : List UInt8) (acc : List ByteArray) (e : Int) (h : runS (-1) (35 :: r) = (r', e)) (he : e ≠ 0) : WR (35 :: r) acc ([], e)
  | quo (r r' : List UInt8) (acc : List ByteArray) (x : List UInt8) (R : List ByteArray × Int) (h : quotS r [] = (x, r', 0)) (k : WR r' (acc ++ [⟨x.toArray⟩]) R) : WR (34 :: r) acc R
  | quoE (r r' : List UInt8) (acc : List ByteArray) (x : List UInt8) (e : Int) (h : quotS r [] = (x, r', e)) (he : e ≠ 0) : WR (34 :: r) acc ([], e)
  | bare (c : UInt8) (r r' : List UInt8) (acc : List ByteArray) (R : List ByteArray × Int) (hm : mayB c = true) (h1 : c ≠ 32) (h2 : c ≠ 35) (h3 : c ≠ 34) (h : runS 32 (c :: r) = (r', 0)) (k : WR r' (acc ++ [⟨((c :: r).take ((c :: r).length - r'.length)).toArray⟩]) R) : WR (c :: r) acc R
  | bareE (c : UInt8) (r r' : List UInt8) (acc : List ByteArray) (e : Int) (hm : mayB c = true) (h1 : c ≠ 32) (h2 : c ≠ 35) (h3 : c ≠ 34) (h : runS 32 (c :: r) = (r', e)) (he : e ≠ 0) : WR (c :: r) acc ([], e)
theorem below_drewN {B : Nat} {w w' : World} (h : Below B w w') (n : Nat) : Below B w (w'.drewN n) := ⟨h.os, h.tape, h.output, h.size, h.block⟩
theorem runS_le (st : Int) : ∀ l, (runS st l).1.length ≤ l.length
  | [] => Nat.le_refl _
  | c :: r => by
    unfold runS
    split
    · exact Nat.le_refl _
    · split
      · exact Nat.le_refl _
      · exact Nat.le_trans (runS_le st r) (Nat.le_succ _)
theorem runS_lt {st : Int} {c : UInt8} {r : List UInt8} (hm : mayB c = true) (hc : (c.toNat : Int) ≠ st) : (runS st (c :: r)).1.length ≤ r.length := by
  unfold runS
  rw [if_neg (by simp [hm]), if_neg hc]
  exact runS_le st r
theorem quotS_le : ∀ n l acc, l.length ≤ n → (quotS l acc).2.2 = 0 → (quotS l acc).2.1.length ≤ l.length
  | _, [], acc, _, h => by simp [quotS] at h
  | 0, c :: r, _, hn, _ => by simp at hn
  | n + 1, c :: r, acc, hn, h => by
    unfold quotS at h ⊢
    split
    · exact Nat.le_refl _
    · rename_i hm
      rw [if_neg hm] at h
      split
      · rename_i h34
        rw [if_pos h34] at h
        cases r with
        | nil => exact Nat.zero_le _
        | cons d r2 =>
          simp only at h ⊢
          split
          · simp
          · split <;> simp
      · rename_i h34
        rw [if_neg h34] at h
        split
        · rename_i h92
          rw [if_pos h92] at h
          cases r with
          | nil => exact Nat.zero_le _
          | cons d r2 =>
            simp only at h ⊢
            split
            · simp
            · rename_i hd
              rw [if_neg hd] at h
              split
              · rename_i ho
                rw [if_pos ho] at h
                have := quotS_le n r2 (acc ++ [d]) (by simp at hn; omega) h
                simp; omega
              · simp
        · rename_i h92
          rw [if_neg h92] at h
          have := quotS_le n r (acc ++ [c]) (by simp at hn; omega) h
          simp; omega
theorem WR_total : ∀ n l acc, l.length ≤ n → ∃ R, WR l acc R
  | _, [], acc, _ => ⟨_, .nil acc⟩
  | 0, c :: r, _, hn => by simp at hn
  | n + 1, c :: r, acc, hn => by
    have hn2 : r.length ≤ n := by simp at hn; omega
    by_cases hm : mayB c = true
    · by_cases h32 : c = 32
      · subst h32
        obtain ⟨R, h⟩ := WR_total n r acc hn2
        exact ⟨R, .sp r acc R h⟩
      · by_cases h35 : c = 35
        · subst h35
          have hl := runS_lt (st := -1) (r := r) hm (by decide)
          cases hq : runS (-1) (35 :: r) with
          | mk r' e =>
            rw [hq] at hl
            by_cases he : e = 0
            · subst he
              obtain ⟨R, h⟩ := WR_total n r' acc (by simp at hl; omega)
              exact ⟨R, .com r r' acc R hq h⟩
            · exact ⟨_, .comE r r' acc e hq he⟩
        · by_cases h34 : c = 34
          · subst h34
            have hl := quotS_le r.length r [] (Nat.le_refl _)
            cases hq : quotS r [] with
            | mk x re =>
              obtain ⟨r', e⟩ := re
              rw [hq] at hl
              by_cases he : e = 0
              · subst he
                obtain ⟨R, h⟩ := WR_total n r' (acc ++ [⟨x.toArray⟩]) (by have := hl rfl; simp at this; omega)
                exact ⟨R, .quo r r' acc x R hq h⟩
              · exact ⟨_, .quoE r r' acc x e hq he⟩
          · have hl := runS_lt (st := 32) (r := r) hm (fun e => h32 (UInt8.toNat_inj.1 (Int.ofNat_inj.1 e)))
            cases hq : runS 32 (c :: r) with
            | mk r' e =>
              rw [hq] at hl
              by_cases he : e = 0
              · subst he
                obtain ⟨R, h⟩ := WR_total n r' _ (by simp at hl; omega)
                exact ⟨R, .bare c r r' acc R hm h32 h35 h34 hq h⟩
              · exact ⟨_, .bareE c r r' acc e hm h32 h35 h34 hq he⟩
    · exact ⟨_, .bad c r acc (by simpa using hm)⟩
/-- The words of a line. -/
def WSpec (s : ByteArray) (R : List ByteArray × Int) : Prop := if 1024 < s.size then R = ([], 1) else WR s.data.toList [] R
theorem WSpec_total (s : ByteArray) : ∃ R, WSpec s R := by
  unfold WSpec
  split
  · exact ⟨_, rfl⟩
  · exact WR_total _ _ _ (Nat.le_refl _)
set_option maxRecDepth 100000 in
set_option maxHeartbeats 12800000 in
theorem words_any {w : World} {s : ByteArray} {R : List ByteArray × Int} (hs : s.size < 4294967281) (hR : WSpec s R) : Calls Tryz.prog 21 #[.string s] w fun e' w' => ∃ v, e' = .returned (.tuple #[v, .int .i64 R.2]) ∧ w'.ownsRow 0 9 1 v R.1.length (strs R.1) ∧ Lo w.heap.size v ∧ Below w.heap.size w w' := by
  unfold WSpec at hR
  by_cases hlong : 1024 < s.size
  · rw [if_pos hlong] at hR
    subst hR
    have hd : decide ((1024 : Int) < s.size) = true := decide_eq_true (by omega)
    go_enter Tryz.func21, Tryz.ntmps21
    go_wp2
    go_ret2
    exact ⟨.slice none 0 0, rfl, own_nil _ _ _, Lo.nil _, Below.refl _ _⟩
  · rw [if_neg hlong] at hR
    have hd : decide ((1024 : Int) < s.size) = false := decide_eq_false (by omega)
    have hb0 := Lib.hid (box1 w (oSc s 0 0))
    have bel0 : Below w.heap.size w (w.alloc (oSc s 0 0)) := (Below.refl _ _).alloc (Nat.le_refl _) _
    have HR := Lib.hid hR
    clear hR
    go_enter Tryz.func21, Tryz.ntmps21
    go_wp2
    go_loopw [5] (fun x5 wr => ∃ (i : Nat) (e : Int) (acc : List ByteArray), i ≤ s.size ∧ (e = 0 → acc.length ≤ i) ∧ Hid (wr.heap[w.heap.size]? = some (oSc s i e)) ∧ Hid ((e ≠ 0 → R = ([], e)) ∧ (e = 0 → WR (s.data.toList.drop i) acc R)) ∧ Hid (wr.ownsRow 0 9 1 x5 acc.length (strs acc)) ∧ Lo (w.heap.size + 1) x5 ∧ Below w.heap.size w wr) (fun x5 wr => match wr.cell? ⟨w.heap.size, 2, none⟩, wr.cell? ⟨w.heap.size, 1, none⟩ with | some v2, some v1 => if intOf v2 = 0 then s.size - (intOf v1).toNat + 1 else 0 | _, _ => 0)
    case atStart => exact ⟨0, 0, [], Nat.zero_le _, fun _ => Nat.le_refl _, hb0, Lib.hid ⟨fun h => absurd rfl h, fun _ => by simpa using HR.out⟩, Lib.hid (by simpa [strs] using own_nil _ _ _), Lo.nil _, bel0⟩
    case round =>
      obtain ⟨i, e, acc, h1, h2, hb, hw, ho, lo, bel⟩ := hrel
      obtain ⟨l, hl⟩ : ∃ l, s.data.toList.drop i = l := ⟨_, rfl⟩
      have nx := next_any hb.out h1 hl
      obtain ⟨-, q1, q2, -⟩ := sc_cells hb.out
      rw [q1, q2]
      clear q1 q2
      rw [hl] at hw
      by_cases he : e = 0
      · subst he
        have hw2 := hw.out.2 rfl
        replace h2 := h2 rfl
        clear hw
        cases hw2 with
        | nil =>
          have hq : nextS [] 0 = (0, false, 0) := rfl
          rw [hq] at nx
          go_wp2_with (go_at_call 94; refine nx.mono ?_; clear nx; rintro e' w2 ⟨rfl, hb2, fr2⟩; obtain ⟨c0, c1, c2, cf⟩ := sc_cells hb2; have f1 := cf 1; clear cf c0; have bel2 := bel.trans (fr2.belowS (fun b hb => by omega) bel.size); have ho2 := Lib.hid (own_fr ho.out fr2 (fun b hb h => by have := lo b hb; omega)))
          go_ret2
          exact ⟨_, rfl, ho2.out, lo.mono (Nat.le_succ _), bel2⟩
        | bad c r acc hm =>
          have hq : nextS (c :: r) 0 = (0, false, 81) := by unfold nextS; simp [hm]
          rw [hq] at nx
          go_wp2_with (go_at_call 94; refine nx.mono ?_; clear nx; rintro e' w2 ⟨rfl, hb2, fr2⟩; obtain ⟨c0, c1, c2, cf⟩ := sc_cells hb2; have f1 := cf 1; clear cf c0; have bel2 := bel.trans (fr2.belowS (fun b hb => by omega) bel.size); have ho2 := Lib.hid (own_fr ho.out fr2 (fun b hb h => by have := lo b hb; omega)))
          go_quiet (fail)
          go_wp2
          go_ret2
          exact ⟨.slice none 0 0, rfl, own_nil _ _ _, Lo.nil _, below_drewN bel2 _⟩
        | sp r acc R k =>
          have hq : nextS (32 :: r) 0 = (32, true, 0) := by unfold nextS; rfl
          rw [hq] at nx
          obtain ⟨hlt, -, hd2⟩ := drop_cons hl
          have hlr : r.length = s.size - i - 1 := by have := congrArg List.length hl; rw [List.length_drop, len_data] at this; (try simp at this); omega
          have hw3 : IntKind.i64.wrap ((i : Int) + 1) = ((i + 1 : Nat) : Int) := (IntWalk.i64_in _ (by omega)).trans (by omega)
          have hk := Lib.hid k
          clear k
          go_wp2_with (go_at_call 94; refine nx.mono ?_; clear nx; rintro e' w2 ⟨rfl, hb2, fr2⟩; obtain ⟨c0, c1, c2, cf⟩ := sc_cells hb2; have f1 := cf 1; clear cf c0; have bel2 := bel.trans (fr2.belowS (fun b hb => by omega) bel.size); have ho2 := Lib.hid (own_fr ho.out fr2 (fun b hb h => by have := lo b hb; omega)); have hb3 : (w2.setCell ⟨w.heap.size, 1, none⟩ (.int .i64 ((i : Int) + 1))).heap[w.heap.size]? = some (oSc s ((i + 1 : Nat) : Int) 0) := (sc_set hb2).1 _; have fr3 : Fr (fun b => b = w.heap.size) w2 (w2.setCell ⟨w.heap.size, 1, none⟩ (.int .i64 ((i : Int) + 1))) := Fr.setCell (S := fun b => b = w.heap.size) (Fr.refl _ w2) (p := ⟨w.heap.size, 1, none⟩) (.inl rfl) (.int .i64 ((i : Int) + 1)); have bel3 := bel2.trans (fr3.belowS (fun b hb => by omega) bel2.size); have ho3 := Lib.hid (own_fr ho2.out fr3 (fun b hb h => by have := lo b hb; omega)); have hb2 := Lib.hid hb2; have hb3 := Lib.hid hb3)
          refine ⟨⟨i + 1, 0, acc, by omega, fun _ => by omega, hb3, Lib.hid ⟨fun h => absurd rfl h, fun _ => by rw [hd2]; exact hk.out⟩, ho3, lo, bel3⟩, ?_⟩
          rw [(sc_cells hb3.out).2.1, (sc_cells hb3.out).2.2.1]
          simp [intOf]; omega
        | com r r' acc R h k =>
          have hq : nextS (35 :: r) 0 = (35, true, 0) := by unfold nextS; rfl
          rw [hq] at nx
          obtain ⟨hlt, -, hd2⟩ := drop_cons hl
          have hlr : r.length = s.size - i - 1 := by have := congrArg List.length hl; rw [List.length_drop, len_data] at this; (try simp at this); omega
          have hw3 : IntKind.i64.wrap ((i : Int) + 1) = ((i + 1 : Nat) : Int) := (IntWalk.i64_in _ (by omega)).trans (by omega)
          have hle := runS_lt (st := -1) (r := r) (c := 35) (by decide) (by decide)
          rw [h] at hle
          replace h := Lib.hid h
          have hk := Lib.hid k
          clear k
          go_wp2_with (first | (go_at_call 94; refine nx.mono ?_; clear nx; rintro e' w2 ⟨rfl, hb2, fr2⟩; obtain ⟨c0, c1, c2, cf⟩ := sc_cells hb2; have f1 := cf 1; clear cf c0; have bel2 := bel.trans (fr2.belowS (fun b hb => by omega) bel.size); have ho2 := Lib.hid (own_fr ho.out fr2 (fun b hb h => by have := lo b hb; omega)); have hb2 := Lib.hid hb2) | (go_at_call 95; go_loud (refine (until_any (R := (r', 0)) hb2.out hs h1 (by rw [hl]; exact h.out)).mono ?_; rintro e' w4 ⟨j, hj1, hj2, hj3, rfl, hb4, fr4⟩; have bel4 := bel2.trans (fr4.belowS (fun b hb => by omega) bel2.size); have ho4 := Lib.hid (own_fr ho2.out fr4 (fun b hb h => by have := lo b hb; omega)); have hb4 := Lib.hid hb4)))
          have hjl : r'.length = s.size - j := by have := congrArg List.length hj3; rw [List.length_drop, len_data] at this; (try simp at this); omega
          refine ⟨⟨j, 0, acc, hj2, fun _ => by omega, hb4, Lib.hid ⟨fun h => absurd rfl h, fun _ => by rw [hj3]; exact hk.out⟩, ho4, lo, bel4⟩, ?_⟩
          rw [(sc_cells hb4.out).2.1, (sc_cells hb4.out).2.2.1]
          simp [intOf]; omega
        | comE r r' acc e h he =>
          have hq : nextS (35 :: r) 0 = (35, true, 0) := by unfold nextS; rfl
          rw [hq] at nx
          obtain ⟨hlt, -, hd2⟩ := drop_cons hl
          have hlr : r.length = s.size - i - 1 := by have := congrArg List.length hl; rw [List.length_drop, len_data] at this; (try simp at this); omega
          have hw3 : IntKind.i64.wrap ((i : Int) + 1) = ((i + 1 : Nat) : Int) := (IntWalk.i64_in _ (by omega)).trans (by omega)
          have hle := runS_lt (st := -1) (r := r) (c := 35) (by decide) (by decide)
          rw [h] at hle
          replace h := Lib.hid h
          go_wp2_with (first | (go_at_call 94; refine nx.mono ?_; clear nx; rintro e' w2 ⟨rfl, hb2, fr2⟩; obtain ⟨c0, c1, c2, cf⟩ := sc_cells hb2; have f1 := cf 1; clear cf c0; have bel2 := bel.trans (fr2.belowS (fun b hb => by omega) bel.size); have ho2 := Lib.hid (own_fr ho.out fr2 (fun b hb h => by have := lo b hb; omega)); have hb2 := Lib.hid hb2) | (go_at_call 95; go_loud (refine (until_any (R := (r', e)) hb2.out hs h1 (by rw [hl]; exact h.out)).mono ?_; rintro e' w4 ⟨j, hj1, hj2, hj3, rfl, hb4, fr4⟩; have bel4 := bel2.trans (fr4.belowS (fun b hb => by omega) bel2.size); have ho4 := Lib.hid (own_fr ho2.out fr4 (fun b hb h => by have := lo b hb; omega)); have hb4 := Lib.hid hb4)))
          refine ⟨⟨j, e, acc, hj2, fun h => absurd h he, hb4, Lib.hid ⟨fun _ => rfl, fun h => absurd h he⟩, ho4, lo, bel4⟩, ?_⟩
          rw [(sc_cells hb4.out).2.1, (sc_cells hb4.out).2.2.1]
          simp [intOf, he]
        | quo r r' acc x R h k =>
          have hq : nextS (34 :: r) 0 = (34, true, 0) := by unfold nextS; rfl
          rw [hq] at nx
          obtain ⟨hlt, -, hd2⟩ := drop_cons hl
          have hlr : r.length = s.size - i - 1 := by have := congrArg List.length hl; rw [List.length_drop, len_data] at this; (try simp at this); omega
          have hw3 : IntKind.i64.wrap ((i : Int) + 1) = ((i + 1 : Nat) : Int) := (IntWalk.i64_in _ (by omega)).trans (by omega)
          have hle := quotS_le r.length r [] (Nat.le_refl _) (by rw [h])
          rw [h] at hle
          replace h := Lib.hid h
          have hk := Lib.hid k
          clear k
          go_wp2_with (first | (go_at_call 94; refine nx.mono ?_; clear nx; rintro e' w2 ⟨rfl, hb2, fr2⟩; obtain ⟨c0, c1, c2, cf⟩ := sc_cells hb2; have f1 := cf 1; clear cf c0; have bel2 := bel.trans (fr2.belowS (fun b hb => by omega) bel.size); have ho2 := Lib.hid (own_fr ho.out fr2 (fun b hb h => by have := lo b hb; omega)); have hb3 : (w2.setCell ⟨w.heap.size, 1, none⟩ (.int .i64 ((i : Int) + 1))).heap[w.heap.size]? = some (oSc s ((i + 1 : Nat) : Int) 0) := (sc_set hb2).1 _; have fr3 : Fr (fun b => b = w.heap.size) w2 (w2.setCell ⟨w.heap.size, 1, none⟩ (.int .i64 ((i : Int) + 1))) := Fr.setCell (S := fun b => b = w.heap.size) (Fr.refl _ w2) (p := ⟨w.heap.size, 1, none⟩) (.inl rfl) (.int .i64 ((i : Int) + 1)); have bel3 := bel2.trans (fr3.belowS (fun b hb => by omega) bel2.size); have ho3 := Lib.hid (own_fr ho2.out fr3 (fun b hb h => by have := lo b hb; omega)); have hb2 := Lib.hid hb2; have hb3 := Lib.hid hb3) | (go_at_call 96; go_loud (refine (quoted_any (R := (x, r', 0)) hb3.out hs (by omega) (by rw [hd2]; exact h.out)).mono ?_; rintro e' w4 ⟨x', j, rfl, hj2, hj3, hb4, fr4⟩; obtain ⟨rfl, hj4⟩ := hj3 rfl; clear hj3; replace hj4 := Lib.hid hj4; have bel4 := bel3.trans (fr4.belowS (fun b hb => by omega) bel3.size); have ho4 := Lib.hid (own_fr ho3.out fr4 (fun b hb h => by have := lo b hb; omega)); have hb4 := Lib.hid hb4)) | (at_builtin; go_loud (refine wpList_app1 rfl (.tmp 63) (.tmp 66) 23 rfl Tryz.underlying23 Tryz.info9 rfl (by decide) (by decide) [.string ⟨x.toArray⟩] rfl (by intro z hz; simp at hz; subst hz; rfl) rfl ho4.out rfl (show (acc.length + 1) * 16 ≤ 140737488355328 by omega) ?_; intro v' w6 ho6 hn6 hf6)))
          have hgl4 := lt_of_obj hb4.out
          have hb6 := Lib.hid (hf6.obj hb4.out (fun hs => by have := lo _ hs; omega))
          have lo6 : Lo (w.heap.size + 1) v' := lo.next hn6 hgl4
          have bel6 := bel4.trans (hf6.belowB (lo.mono (Nat.le_succ _)) bel4.size)
          have hj3 := hj4.out
          have hjl : r'.length = s.size - j := by have := congrArg List.length hj3; rw [List.length_drop, len_data] at this; (try simp at this); omega
          refine ⟨⟨j, 0, acc ++ [⟨x.toArray⟩], hj2, fun _ => by simp; omega, hb6, Lib.hid ⟨fun h => absurd rfl h, fun _ => by rw [hj3]; exact hk.out⟩, Lib.hid (by simpa [strs] using ho6), lo6, bel6⟩, ?_⟩
          rw [(sc_cells hb6.out).2.1, (sc_cells hb6.out).2.2.1]
          simp [intOf]; omega
        | quoE r r' acc x e h he =>
          have hq : nextS (34 :: r) 0 = (34, true, 0) := by unfold nextS; rfl
          rw [hq] at nx
          obtain ⟨hlt, -, hd2⟩ := drop_cons hl
          have hlr : r.length = s.size - i - 1 := by have := congrArg List.length hl; rw [List.length_drop, len_data] at this; (try simp at this); omega
          have hw3 : IntKind.i64.wrap ((i : Int) + 1) = ((i + 1 : Nat) : Int) := (IntWalk.i64_in _ (by omega)).trans (by omega)
          replace h := Lib.hid h
          go_wp2_with (first | (go_at_call 94; refine nx.mono ?_; clear nx; rintro e' w2 ⟨rfl, hb2, fr2⟩; obtain ⟨c0, c1, c2, cf⟩ := sc_cells hb2; have f1 := cf 1; clear cf c0; have bel2 := bel.trans (fr2.belowS (fun b hb => by omega) bel.size); have ho2 := Lib.hid (own_fr ho.out fr2 (fun b hb h => by have := lo b hb; omega)); have hb3 : (w2.setCell ⟨w.heap.size, 1, none⟩ (.int .i64 ((i : Int) + 1))).heap[w.heap.size]? = some (oSc s ((i + 1 : Nat) : Int) 0) := (sc_set hb2).1 _; have fr3 : Fr (fun b => b = w.heap.size) w2 (w2.setCell ⟨w.heap.size, 1, none⟩ (.int .i64 ((i : Int) + 1))) := Fr.setCell (S := fun b => b = w.heap.size) (Fr.refl _ w2) (p := ⟨w.heap.size, 1, none⟩) (.inl rfl) (.int .i64 ((i : Int) + 1)); have bel3 := bel2.trans (fr3.belowS (fun b hb => by omega) bel2.size); have ho3 := Lib.hid (own_fr ho2.out fr3 (fun b hb h => by have := lo b hb; omega)); have hb2 := Lib.hid hb2; have hb3 := Lib.hid hb3) | (go_at_call 96; go_loud (refine (quoted_any (R := (x, r', e)) hb3.out hs (by omega) (by rw [hd2]; exact h.out)).mono ?_; rintro e' w4 ⟨x', j, rfl, hj2, hj3, hb4, fr4⟩; clear hj3; have bel4 := bel3.trans (fr4.belowS (fun b hb => by omega) bel3.size); have ho4 := Lib.hid (own_fr ho3.out fr4 (fun b hb h => by have := lo b hb; omega)); have hb4 := Lib.hid hb4)) | (at_builtin; go_loud (refine wpList_app1 rfl (.tmp 63) (.tmp 66) 23 rfl Tryz.underlying23 Tryz.info9 rfl (by decide) (by decide) [.string x'] rfl (by intro z hz; simp at hz; subst hz; rfl) rfl ho4.out rfl (show (acc.length + 1) * 16 ≤ 140737488355328 by omega) ?_; intro v' w6 ho6 hn6 hf6)))
          have hgl4 := lt_of_obj hb4.out
          have hb6 := Lib.hid (hf6.obj hb4.out (fun hs => by have := lo _ hs; omega))
          have lo6 : Lo (w.heap.size + 1) v' := lo.next hn6 hgl4
          have bel6 := bel4.trans (hf6.belowB (lo.mono (Nat.le_succ _)) bel4.size)
          refine ⟨⟨j, e, acc ++ [x'], hj2, fun h => absurd h he, hb6, Lib.hid ⟨fun _ => rfl, fun h => absurd h he⟩, Lib.hid (by simpa [strs] using ho6), lo6, bel6⟩, ?_⟩
          rw [(sc_cells hb6.out).2.1, (sc_cells hb6.out).2.2.1]
          simp [intOf, he]
        | bare c r r' acc R hm n1 n2 n3 h k =>
          have hq : nextS (c :: r) 0 = ((c.toNat : Int), true, 0) := by unfold nextS; simp [hm]
          rw [hq] at nx
          obtain ⟨hlt, -, hd2⟩ := drop_cons hl
          have hlr : r.length = s.size - i - 1 := by have := congrArg List.length hl; rw [List.length_drop, len_data] at this; (try simp at this); omega
          have b1 : ((c.toNat : Int) == 32) = false := by have hn : c.toNat ≠ 32 := fun e => n1 (UInt8.toNat_inj.1 e); exact beq_eq_false_iff_ne.mpr (by omega)
          have b2 : ((c.toNat : Int) == 35) = false := by have hn : c.toNat ≠ 35 := fun e => n2 (UInt8.toNat_inj.1 e); exact beq_eq_false_iff_ne.mpr (by omega)
          have b3 : ((c.toNat : Int) == 34) = false := by have hn : c.toNat ≠ 34 := fun e => n3 (UInt8.toNat_inj.1 e); exact beq_eq_false_iff_ne.mpr (by omega)
          have hle := runS_lt (st := 32) (r := r) hm (fun e => n1 (UInt8.toNat_inj.1 (Int.ofNat_inj.1 e)))
          rw [h] at hle
          replace h := Lib.hid h
          clear n1 n2 n3 hm
          have hk := Lib.hid k
          clear k
          go_wp2_with (first | (go_at_call 94; refine nx.mono ?_; clear nx; rintro e' w2 ⟨rfl, hb2, fr2⟩; obtain ⟨c0, c1, c2, cf⟩ := sc_cells hb2; have f1 := cf 1; clear cf c0; have bel2 := bel.trans (fr2.belowS (fun b hb => by omega) bel.size); have ho2 := Lib.hid (own_fr ho.out fr2 (fun b hb h => by have := lo b hb; omega)); have hb2 := Lib.hid hb2) | (go_at_call 95; go_loud (refine (until_any (R := (r', 0)) hb2.out hs h1 (by rw [hl]; exact h.out)).mono ?_; rintro e' w4 ⟨j, hj1, hj2, hj3, rfl, hb4, fr4⟩; have bel4 := bel2.trans (fr4.belowS (fun b hb => by omega) bel2.size); have ho4 := Lib.hid (own_fr ho2.out fr4 (fun b hb h => by have := lo b hb; omega)); have hb4 := Lib.hid hb4)) | (at_builtin; go_loud (refine wpList_app1 rfl (.tmp 19) (.tmp 22) 23 rfl Tryz.underlying23 Tryz.info9 rfl (by decide) (by decide) [.string (s.extract i j)] rfl (by intro z hz; simp at hz; subst hz; rfl) rfl ho4.out rfl (show (acc.length + 1) * 16 ≤ 140737488355328 by omega) ?_; intro v' w6 ho6 hn6 hf6)))
          have hgl4 := lt_of_obj hb4.out
          have hb6 := Lib.hid (hf6.obj hb4.out (fun hs => by have := lo _ hs; omega))
          have lo6 : Lo (w.heap.size + 1) v' := lo.next hn6 hgl4
          have bel6 := bel4.trans (hf6.belowB (lo.mono (Nat.le_succ _)) bel4.size)
          have hjl : r'.length = s.size - j := by have := congrArg List.length hj3; rw [List.length_drop, len_data] at this; (try simp at this); omega
          have hx : s.extract i j = ⟨((c :: r).take ((c :: r).length - r'.length)).toArray⟩ := by
            apply ByteArray.ext
            apply Array.toList_inj.1
            rw [ext_list, hl]
            show _ = List.take _ _
            congr 1
            simp; omega
          refine ⟨⟨j, 0, acc ++ [s.extract i j], hj2, fun _ => by simp; omega, hb6, Lib.hid ⟨fun h => absurd rfl h, fun _ => by rw [hj3, hx]; exact hk.out⟩, Lib.hid (by simpa [strs] using ho6), lo6, bel6⟩, ?_⟩
          rw [(sc_cells hb6.out).2.1, (sc_cells hb6.out).2.2.1]
          simp [intOf]; omega
        | bareE c r r' acc e hm n1 n2 n3 h he =>
          have hq : nextS (c :: r) 0 = ((c.toNat : Int), true, 0) := by unfold nextS; simp [hm]
          rw [hq] at nx
          obtain ⟨hlt, -, hd2⟩ := drop_cons hl
          have hlr : r.length = s.size - i - 1 := by have := congrArg List.length hl; rw [List.length_drop, len_data] at this; (try simp at this); omega
          have b1 : ((c.toNat : Int) == 32) = false := by have hn : c.toNat ≠ 32 := fun e => n1 (UInt8.toNat_inj.1 e); exact beq_eq_false_iff_ne.mpr (by omega)
          have b2 : ((c.toNat : Int) == 35) = false := by have hn : c.toNat ≠ 35 := fun e => n2 (UInt8.toNat_inj.1 e); exact beq_eq_false_iff_ne.mpr (by omega)
          have b3 : ((c.toNat : Int) == 34) = false := by have hn : c.toNat ≠ 34 := fun e => n3 (UInt8.toNat_inj.1 e); exact beq_eq_false_iff_ne.mpr (by omega)
          have hle := runS_lt (st := 32) (r := r) hm (fun e => n1 (UInt8.toNat_inj.1 (Int.ofNat_inj.1 e)))
          rw [h] at hle
          replace h := Lib.hid h
          clear n1 n2 n3 hm
          go_wp2_with (first | (go_at_call 94; refine nx.mono ?_; clear nx; rintro e' w2 ⟨rfl, hb2, fr2⟩; obtain ⟨c0, c1, c2, cf⟩ := sc_cells hb2; have f1 := cf 1; clear cf c0; have bel2 := bel.trans (fr2.belowS (fun b hb => by omega) bel.size); have ho2 := Lib.hid (own_fr ho.out fr2 (fun b hb h => by have := lo b hb; omega)); have hb2 := Lib.hid hb2) | (go_at_call 95; go_loud (refine (until_any (R := (r', e)) hb2.out hs h1 (by rw [hl]; exact h.out)).mono ?_; rintro e' w4 ⟨j, hj1, hj2, hj3, rfl, hb4, fr4⟩; have bel4 := bel2.trans (fr4.belowS (fun b hb => by omega) bel2.size); have ho4 := Lib.hid (own_fr ho2.out fr4 (fun b hb h => by have := lo b hb; omega)); have hb4 := Lib.hid hb4)) | (at_builtin; go_loud (refine wpList_app1 rfl (.tmp 19) (.tmp 22) 23 rfl Tryz.underlying23 Tryz.info9 rfl (by decide) (by decide) [.string (s.extract i j)] rfl (by intro z hz; simp at hz; subst hz; rfl) rfl ho4.out rfl (show (acc.length + 1) * 16 ≤ 140737488355328 by omega) ?_; intro v' w6 ho6 hn6 hf6)))
          have hgl4 := lt_of_obj hb4.out
          have hb6 := Lib.hid (hf6.obj hb4.out (fun hs => by have := lo _ hs; omega))
          have lo6 : Lo (w.heap.size + 1) v' := lo.next hn6 hgl4
          have bel6 := bel4.trans (hf6.belowB (lo.mono (Nat.le_succ _)) bel4.size)
          refine ⟨⟨j, e, acc ++ [s.extract i j], hj2, fun h => absurd h he, hb6, Lib.hid ⟨fun _ => rfl, fun h => absurd h he⟩, Lib.hid (by simpa [strs] using ho6), lo6, bel6⟩, ?_⟩
          rw [(sc_cells hb6.out).2.1, (sc_cells hb6.out).2.2.1]
          simp [intOf, he]
      · have hq : nextS l e = (0, false, e) := by unfold nextS; rw [if_pos he]
        rw [hq] at nx
        have hne : (e != 0) = true := by simpa using he
        have hR : Hid (R = ([], e)) := Lib.hid (hw.out.1 he)
        replace he := Lib.hid he
        clear hw
        go_wp2_with (go_at_call 94; refine nx.mono ?_; clear nx; rintro e' w2 ⟨rfl, hb2, fr2⟩; obtain ⟨-, -, c2, -⟩ := sc_cells hb2; have bel2 := bel.trans (fr2.belowS (fun b hb => by omega) bel.size))
        go_quiet (fail)
        go_wp2
        go_ret2
        exact ⟨.slice none 0 0, by rw [hR.out]; rfl, by rw [hR.out]; exact own_nil _ _ _, Lo.nil _, below_drewN bel2 _⟩
end Go.Proofs.YtnljjlaececnkaaGreatDoor
/-
  Plain laws of words: comments, blanks, what was joined. No condition.
-/
namespace Go.Proofs.YtnljjlaececnkaaGreatDoor
open Go.RowKit
set_option linter.unusedVariables false
set_option linter.unusedSimpArgs false
theorem runS_tail (T : List UInt8) : ∀ l, runS 32 (l ++ 32 :: T) = ((runS 32 l).1 ++ 32 :: T, (runS 32 l).2)
  | [] => by
    rw [List.nil_append]
    conv => lhs; unfold runS
    rw [if_neg (by decide), if_pos (by decide)]; rfl
  | c :: r => by
    rw [List.cons_append]
    unfold runS
    split
    · rfl
    · split
      · rfl
      · exact runS_tail T r
theorem runS_suf (st : Int) : ∀ l, (runS st l).1 <:+ l
  | [] => List.suffix_refl _
  | c :: r => by
    unfold runS
    split
    · exact List.suffix_refl _
    · split
      · exact List.suffix_refl _
      · exact (runS_suf st r).trans (List.suffix_cons c r)
theorem take_tail (l m T : List UInt8) (h : m.length ≤ l.length) : (l ++ T).take ((l ++ T).length - (m ++ T).length) = l.take (l.length - m.length) := by
  rw [List.length_append, List.length_append, Nat.add_sub_add_right, List.take_append_of_le_length (by omega)]
/-- A line behind which a comment stands, or blanks. -/
theorem WR_tail {T : List UInt8} (hT : ∀ acc, WR (32 :: T) acc (acc, 0)) {l : List UInt8} {acc : List ByteArray} {R : List ByteArray × Int} (h : WR l acc R) : (∀ c ∈ l, c ≠ 35 ∧ c ≠ 34) → WR (l ++ 32 :: T) acc R := by
  induction h with
  | nil acc => exact fun _ => hT acc
  | bad c r acc hm => exact fun _ => .bad c _ acc hm
  | sp r acc R k ih => exact fun hn => .sp _ acc R (ih fun c hc => hn c (List.mem_cons_of_mem _ hc))
  | com r r' acc R h k ih => exact fun hn => absurd rfl (hn 35 (List.mem_cons_self ..)).1
  | comE r r' acc e h he => exact fun hn => absurd rfl (hn 35 (List.mem_cons_self ..)).1
  | quo r r' acc x R h k ih => exact fun hn => absurd rfl (hn 34 (List.mem_cons_self ..)).2
  | quoE r r' acc x e h he => exact fun hn => absurd rfl (hn 34 (List.mem_cons_self ..)).2
  | bare c r r' acc R hm h1 h2 h3 h k ih =>
    intro hn
    have hr := runS_tail T (c :: r)
    have hs := runS_suf 32 (c :: r)
    rw [h] at hr hs
    have hk := ih fun d hd => hn d (hs.subset hd)
    refine .bare c (r ++ 32 :: T) (r' ++ 32 :: T) acc R hm h1 h2 h3 hr ?_
    have ht := take_tail (c :: r) r' (32 :: T) hs.length_le
    rw [List.cons_append] at ht
    rw [ht]; exact hk
  | bareE c r r' acc e hm h1 h2 h3 h he =>
    intro hn
    have hr := runS_tail T (c :: r)
    rw [h] at hr
    exact .bareE c (r ++ 32 :: T) (r' ++ 32 :: T) acc e hm h1 h2 h3 hr he
theorem WR_pad {l : List UInt8} {acc : List ByteArray} {R : List ByteArray × Int} (h : WR l acc R) : ∀ n, WR (List.replicate n 32 ++ l) acc R
  | 0 => h
  | n + 1 => by rw [List.replicate_succ, List.cons_append]; exact .sp _ acc R (WR_pad h n)
/-- A comment. -/
def noteL : List UInt8 := [35, 32, 97, 110, 100, 32, 109, 111, 114, 101, 32, 34, 32, 104, 101, 114, 101]
theorem WR_note (acc : List ByteArray) : WR noteL acc (acc, 0) := .com _ [] acc _ (by decide +kernel) (.nil acc)
theorem WR_comment {n : Nat} {l : List UInt8} {R : List ByteArray × Int} (h : WR l [] R) (hn : ∀ c ∈ l, c ≠ 35 ∧ c ≠ 34) : WR (List.replicate n 32 ++ (l ++ 32 :: (List.replicate n 32 ++ noteL))) [] R :=
  WR_pad (WR_tail (fun acc => .sp _ acc _ (WR_pad (WR_note acc) n)) h hn) n
/-- A quoted word is read. -/
theorem quotS_esc {rest : List UInt8} (hrest : rest = [] ∨ ∃ r, rest = 32 :: r) : ∀ (x acc : List UInt8), (∀ c ∈ x, mayB c = true) → quotS (escL x ++ 34 :: rest) acc = (acc ++ x, rest, 0)
  | [], acc, _ => by
    show quotS (34 :: rest) acc = _
    unfold quotS
    rw [if_neg (by decide), if_pos rfl]
    rcases hrest with rfl | ⟨r, rfl⟩
    · simp
    · simp only
      rw [if_neg (by decide)]; simp
  | c :: x, acc, hx => by
    have hm := hx c (List.mem_cons_self ..)
    have hx2 := fun d hd => hx d (List.mem_cons_of_mem _ hd)
    have he : escL (c :: x) = escB c ++ escL x := rfl
    rw [he, List.append_assoc]
    by_cases h34 : c = 34
    · subst h34
      show quotS (92 :: 34 :: (escL x ++ 34 :: rest)) acc = _
      unfold quotS
      rw [if_neg (by decide), if_neg (by decide), if_pos rfl]
      simp only
      rw [if_neg (by decide), if_pos (by simp), quotS_esc hrest x _ hx2]; simp
    · by_cases h92 : c = 92
      · subst h92
        show quotS (92 :: 92 :: (escL x ++ 34 :: rest)) acc = _
        unfold quotS
        rw [if_neg (by decide), if_neg (by decide), if_pos rfl]
        simp only
        rw [if_neg (by decide), if_pos (by simp), quotS_esc hrest x _ hx2]; simp
      · have hb : escB c = [c] := by unfold escB; rw [if_neg h34, if_neg h92]
        rw [hb]
        show quotS (c :: (escL x ++ 34 :: rest)) acc = _
        unfold quotS
        rw [if_neg (by rw [hm]; decide), if_neg h34, if_neg h92, quotS_esc hrest x _ hx2]; simp
theorem runS_plain {rest : List UInt8} (hrest : rest = [] ∨ ∃ r, rest = 32 :: r) : ∀ x : List UInt8, (∀ c ∈ x, mayB c = true ∧ c ≠ 32) → runS 32 (x ++ rest) = (rest, 0)
  | [], _ => by
    rcases hrest with rfl | ⟨r, rfl⟩
    · rfl
    · rw [List.nil_append]; unfold runS; rw [if_neg (by decide), if_pos (by decide)]
  | c :: x, hx => by
    obtain ⟨hm, h32⟩ := hx c (List.mem_cons_self ..)
    rw [List.cons_append]
    unfold runS
    have hne : ¬ (c.toNat : Int) = 32 := fun e => h32 (UInt8.toNat_inj.1 (Int.ofNat_inj.1 e))
    rw [if_neg (by rw [hm]; decide), if_neg hne]
    exact runS_plain hrest x fun d hd => hx d (List.mem_cons_of_mem _ hd)
theorem idx_none {l : List UInt8} {c : UInt8} (h : ¬ 0 ≤ Lib.indexByte l c) : ∀ x ∈ l, x ≠ c := by
  refine index_miss ?_
  have := Lib.indexByte_ge l c
  omega
theorem WR_word {x rest : List UInt8} {acc : List ByteArray} {R : List ByteArray × Int} (hx : ∀ c ∈ x, mayB c = true) (hrest : rest = [] ∨ ∃ r, rest = 32 :: r) (k : WR rest (acc ++ [⟨x.toArray⟩]) R) : WR (wordL x ++ rest) acc R := by
  unfold wordL
  cases hp : plainW x with
  | false =>
    rw [if_neg (by simp)]
    have hq := quotS_esc hrest x [] hx
    rw [List.append_assoc, List.append_assoc, List.nil_append] at *
    exact .quo _ rest acc x R hq k
  | true =>
    rw [if_pos rfl]
    cases x with
    | nil => cases hp
    | cons c r =>
      unfold plainW at hp
      simp only [Bool.and_eq_true, bne_iff_ne, ne_eq, Bool.not_eq_true', decide_eq_false_iff_not] at hp
      obtain ⟨⟨h34, h35⟩, h32⟩ := hp
      have hn := idx_none h32
      have hr := runS_plain hrest (c :: r) fun d hd => ⟨hx d hd, hn d hd⟩
      refine .bare c (r ++ rest) rest acc R (hx c (List.mem_cons_self ..)) (hn c (List.mem_cons_self ..)) h35 h34 hr ?_
      have ht : (c :: (r ++ rest)).take ((c :: (r ++ rest)).length - rest.length) = c :: r := by
        rw [← List.cons_append, List.length_append, Nat.add_sub_cancel, List.take_left]
      rw [ht]; exact k
theorem WR_joinTail : ∀ (xs : List ByteArray) (acc : List ByteArray), (∀ x ∈ xs, ∀ c ∈ x.data.toList, mayB c = true) → WR (Lib.joinTail [32] (xs.map fun x => wordL x.data.toList)) acc (acc ++ xs, 0)
  | [], acc, _ => by simpa [Lib.joinTail] using WR.nil acc
  | x :: xs, acc, h => by
    have hq : Lib.joinTail [32] ((x :: xs).map fun x => wordL x.data.toList) = 32 :: (wordL x.data.toList ++ Lib.joinTail [32] (xs.map fun x => wordL x.data.toList)) := by simp [Lib.joinTail]
    have ih := WR_joinTail xs (acc ++ [x]) fun y hy => h y (List.mem_cons_of_mem _ hy)
    rw [List.append_assoc] at ih
    rw [hq]
    refine .sp _ _ _ (WR_word (h x (List.mem_cons_self ..)) ?_ ih)
    cases xs with
    | nil => exact .inl rfl
    | cons y ys => exact .inr ⟨_, by simp [Lib.joinTail]; rfl⟩
theorem join_tail (x : List UInt8) (r : List (List UInt8)) : Lib.join (x :: r) [32] = x ++ Lib.joinTail [32] r := by
  induction r generalizing x with
  | nil => simp [Lib.join, Lib.joinTail]
  | cons y r ih =>
    have := ih y
    simp only [Lib.join, Lib.joinTail, List.map_cons, List.flatten_cons] at this ⊢
    rw [List.intercalate_cons_cons]
    simp [this]
/-- What was joined is cut again. -/
theorem WR_join (xs : List ByteArray) (h : ∀ x ∈ xs, ∀ c ∈ x.data.toList, mayB c = true) : WR (Lib.join (xs.map fun x => wordL x.data.toList) [32]) [] (xs, 0) := by
  cases xs with
  | nil => exact .nil []
  | cons x xs =>
    rw [List.map_cons, join_tail]
    have ih := WR_joinTail xs [x] fun y hy => h y (List.mem_cons_of_mem _ hy)
    refine WR_word (h x (List.mem_cons_self ..)) ?_ ih
    cases xs with
    | nil => exact .inl rfl
    | cons y ys => exact .inr ⟨_, by simp [Lib.joinTail]; rfl⟩
end Go.Proofs.YtnljjlaececnkaaGreatDoor
/-
  Plain laws of lines; a line's words by running. No condition.
-/
namespace Go.Proofs.YtnljjlaececnkaaGreatDoor
open Go.RowKit
set_option linter.unusedVariables false
set_option linter.unusedSimpArgs false
theorem cutL_count (c : UInt8) : ∀ l, (cutL c l).length = l.count c + 1
  | [] => rfl
  | x :: r => by
    have ih := cutL_count c r
    unfold cutL
    by_cases h : x = c
    · rw [if_pos h, List.length_cons, ih, h, List.count_cons_self]
    · rw [if_neg h, List.count_cons_of_ne h]
      cases hr : cutL c r with
      | nil => exact absurd hr (cutL_ne c r)
      | cons a t => rw [hr] at ih; exact ih
theorem cutL_many (c : UInt8) (l : List UInt8) : (cutL c l).length ≤ l.length + 1 := by
  rw [cutL_count]; exact Nat.succ_le_succ List.count_le_length
theorem cutL_mem {c : UInt8} : ∀ {l x : List UInt8}, x ∈ cutL c l → x.length ≤ l.length
  | [], x, h => by simp [cutL] at h; subst h; exact Nat.le_refl _
  | y :: r, x, h => by
    unfold cutL at h
    split at h
    · rcases List.mem_cons.1 h with rfl | h
      · exact Nat.zero_le _
      · exact Nat.le_trans (cutL_mem h) (Nat.le_succ _)
    · cases hr : cutL c r with
      | nil => exact absurd hr (cutL_ne c r)
      | cons a t =>
        rw [hr] at h
        rcases List.mem_cons.1 h with rfl | h
        · have := cutL_mem (l := r) (x := a) (by rw [hr]; exact List.mem_cons_self ..)
          simp; omega
        · exact Nat.le_trans (cutL_mem (l := r) (by rw [hr]; exact List.mem_cons_of_mem _ h)) (Nat.le_succ _)
theorem cutL_two (c : UInt8) (b : List UInt8) : ∀ a, cutL c (a ++ c :: b) = cutL c a ++ cutL c b
  | [] => by
    rw [List.nil_append]
    show (if c = c then [] :: cutL c b else _) = _
    rw [if_pos rfl]; rfl
  | x :: a => by
    rw [List.cons_append, cutL, cutL_two c b a]
    conv => rhs; rw [cutL]
    split
    · rfl
    · cases h : cutL c a with
      | nil => exact absurd h (cutL_ne c a)
      | cons y t => rfl
/-- The lines that have words, from here on. -/
def linesA (f : ByteArray → List ByteArray × Int) : List ByteArray → Nat → List (Nat × List ByteArray) → List (Nat × List ByteArray) × Int × Nat
  | [], _, acc => (acc, 0, 0)
  | p :: r, k, acc => if (f p).2 = 0 then linesA f r (k + 1) (if (f p).1 = [] then acc else acc ++ [(k + 1, (f p).1)]) else ([], (f p).2, k + 1)
theorem linesA_app (f : ByteArray → List ByteArray × Int) (b : List ByteArray) : ∀ a k acc, linesA f (a ++ b) k acc = if (linesA f a k acc).2.1 = 0 then linesA f b (k + a.length) (linesA f a k acc).1 else linesA f a k acc
  | [], k, acc => by simp [linesA]
  | p :: a, k, acc => by
    have e1 : ∀ x, linesA f (p :: x) k acc = if (f p).2 = 0 then linesA f x (k + 1) (if (f p).1 = [] then acc else acc ++ [(k + 1, (f p).1)]) else ([], (f p).2, k + 1) := fun _ => rfl
    rw [List.cons_append, e1, e1]
    by_cases h : (f p).2 = 0
    · rw [if_pos h, if_pos h, linesA_app f b a, List.length_cons, Nat.add_assoc, Nat.add_comm 1]
    · rw [if_neg h, if_neg h, if_neg h]
def shiftL (n : Nat) (l : List (Nat × List ByteArray)) : List (Nat × List ByteArray) := l.map fun x => (x.1 + n, x.2)
theorem linesA_shift (f : ByteArray → List ByteArray × Int) (n : Nat) (pre : List (Nat × List ByteArray)) : ∀ b k acc, linesA f b (k + n) (pre ++ shiftL n acc) = if (linesA f b k acc).2.1 = 0 then (pre ++ shiftL n (linesA f b k acc).1, 0, 0) else ([], (linesA f b k acc).2.1, (linesA f b k acc).2.2 + n)
  | [], k, acc => by simp [linesA]
  | p :: b, k, acc => by
    unfold linesA
    by_cases h : (f p).2 = 0
    · rw [if_pos h, if_pos h]
      have ih := linesA_shift f n pre b (k + 1) (if (f p).1 = [] then acc else acc ++ [(k + 1, (f p).1)])
      rw [← ih, Nat.add_right_comm]
      congr 1
      by_cases h2 : (f p).1 = []
      · rw [if_pos h2, if_pos h2]
      · rw [if_neg h2, if_neg h2]
        simp [shiftL, Nat.add_right_comm]
    · rw [if_neg h, if_neg h, if_neg h]
      simp [Nat.add_right_comm]
theorem linesA_ok (f : ByteArray → List ByteArray × Int) : ∀ a k acc, (linesA f a k acc).2.1 = 0 → (linesA f a k acc).2.2 = 0
  | [], k, acc, _ => rfl
  | p :: a, k, acc, h => by
    unfold linesA at h ⊢
    by_cases h2 : (f p).2 = 0
    · rw [if_pos h2] at h ⊢; exact linesA_ok f a _ _ h
    · rw [if_neg h2] at h; exact absurd h h2
theorem linesA_bad (f : ByteArray → List ByteArray × Int) : ∀ a k acc, (linesA f a k acc).2.1 ≠ 0 → (linesA f a k acc).1 = []
  | [], k, acc, h => absurd rfl h
  | p :: a, k, acc, h => by
    unfold linesA at h ⊢
    by_cases h2 : (f p).2 = 0
    · rw [if_pos h2] at h ⊢; exact linesA_bad f a _ _ h
    · rw [if_neg h2]
theorem linesA_len (f : ByteArray → List ByteArray × Int) : ∀ a k acc, (linesA f a k acc).1.length ≤ acc.length + a.length
  | [], k, acc => Nat.le_refl _
  | p :: a, k, acc => by
    unfold linesA
    by_cases h2 : (f p).2 = 0
    · rw [if_pos h2]
      refine Nat.le_trans (linesA_len f a _ _) ?_
      split <;> simp <;> omega
    · rw [if_neg h2]; exact Nat.zero_le _
/-- Two texts, one behind the other. -/
theorem linesA_two (f : ByteArray → List ByteArray × Int) (a b : List ByteArray) : linesA f (a ++ b) 0 [] = if (linesA f a 0 []).2.1 = 0 then (if (linesA f b 0 []).2.1 = 0 then ((linesA f a 0 []).1 ++ shiftL a.length (linesA f b 0 []).1, 0, 0) else ([], (linesA f b 0 []).2.1, (linesA f b 0 []).2.2 + a.length)) else linesA f a 0 [] := by
  rw [linesA_app]
  by_cases h : (linesA f a 0 []).2.1 = 0
  · rw [if_pos h, if_pos h]
    have := linesA_shift f a.length (linesA f a 0 []).1 b 0 []
    simpa [shiftL] using this
  · rw [if_neg h, if_neg h]
/-- The words of a line, by running. -/
def wrun : Nat → List UInt8 → List (List UInt8) → Option (List (List UInt8) × Int)
  | 0, _, _ => none
  | _ + 1, [], acc => some (acc, 0)
  | n + 1, c :: r, acc =>
    if mayB c = false then some ([], 81)
    else if c = 32 then wrun n r acc
    else if c = 35 then (if (runS (-1) (c :: r)).2 = 0 then wrun n (runS (-1) (c :: r)).1 acc else some ([], (runS (-1) (c :: r)).2))
    else if c = 34 then (if (quotS r []).2.2 = 0 then wrun n (quotS r []).2.1 (acc ++ [(quotS r []).1]) else some ([], (quotS r []).2.2))
    else (if (runS 32 (c :: r)).2 = 0 then wrun n (runS 32 (c :: r)).1 (acc ++ [(c :: r).take ((c :: r).length - (runS 32 (c :: r)).1.length)]) else some ([], (runS 32 (c :: r)).2))
def mkB (l : List UInt8) : ByteArray := ⟨l.toArray⟩
theorem wrun_WR : ∀ n l acc R, wrun n l acc = some R → WR l (acc.map mkB) (R.1.map mkB, R.2)
  | 0, l, acc, R, h => by cases h
  | n + 1, [], acc, R, h => by cases h; exact .nil _
  | n + 1, c :: r, acc, R, h => by
    unfold wrun at h
    by_cases hm : mayB c = false
    · rw [if_pos hm] at h; cases h; exact .bad c r _ hm
    · rw [if_neg hm] at h
      by_cases h32 : c = 32
      · rw [if_pos h32] at h; subst h32; exact .sp r _ _ (wrun_WR n r acc R h)
      · rw [if_neg h32] at h
        by_cases h35 : c = 35
        · rw [if_pos h35] at h; subst h35
          by_cases he : (runS (-1) (35 :: r)).2 = 0
          · rw [if_pos he] at h
            exact .com r _ _ _ (Prod.ext rfl he) (wrun_WR n _ acc R h)
          · rw [if_neg he] at h; cases h
            exact .comE r _ _ _ rfl he
        · rw [if_neg h35] at h
          by_cases h34 : c = 34
          · rw [if_pos h34] at h; subst h34
            by_cases he : (quotS r []).2.2 = 0
            · rw [if_pos he] at h
              have k := wrun_WR n _ _ R h
              rw [List.map_append] at k
              exact .quo r _ _ (quotS r []).1 _ (Prod.ext rfl (Prod.ext rfl he)) k
            · rw [if_neg he] at h; cases h
              exact .quoE r _ _ (quotS r []).1 _ rfl he
          · rw [if_neg h34] at h
            have hm2 : mayB c = true := by simpa using hm
            by_cases he : (runS 32 (c :: r)).2 = 0
            · rw [if_pos he] at h
              have k := wrun_WR n _ _ R h
              rw [List.map_append] at k
              exact .bare c r _ _ _ hm2 h32 h35 h34 (Prod.ext rfl he) k
            · rw [if_neg he] at h; cases h
              exact .bareE c r _ _ _ hm2 h32 h35 h34 rfl he
theorem words_run {s : ByteArray} {R : List (List UInt8) × Int} (n : Nat) (hs : s.size ≤ 1024) (h : wrun n s.data.toList [] = some R) : WSpec s (R.1.map mkB, R.2) := by
  unfold WSpec
  rw [if_neg (by omega)]
  exact wrun_WR n _ [] R h
theorem wr_live : WSpec ⟨#[97, 32, 34, 98, 32, 99, 34, 32, 100, 35, 101, 32, 35, 102]⟩ ([⟨#[97]⟩, ⟨#[98, 32, 99]⟩, ⟨#[100, 35, 101]⟩], 0) := words_run (R := ([[97], [98, 32, 99], [100, 35, 101]], 0)) 20 (by decide) (by decide +kernel)
theorem wr_live2 : WSpec ⟨#[34, 97]⟩ ([], 80) := words_run (R := ([], 80)) 20 (by decide) (by decide +kernel)
end Go.Proofs.YtnljjlaececnkaaGreatDoor
/-
  Lines. Condition: the held start.
-/
namespace Go.Proofs.YtnljjlaececnkaaGreatDoor
open Go.RowKit
set_option linter.unusedVariables false
set_option linter.unusedSimpArgs false
theorem split_row {w : World} (E : Env w) {s sep : ByteArray} {l : List ByteArray} {n : Nat} (hs : s.size < 4294967281) (h1 : 1 ≤ sep.size) (hl : pieces s sep = l) (hn : l.length = n) :
    Calls Tryz.prog 99 #[.string s, .string sep] w fun e w' => (∃ g, e = .returned (.slice (some ⟨g, 0, none⟩) n n) ∧ w.heap.size ≤ g ∧ w'.heap[g]? = some (.cells (strs l).toArray 9)) ∧ Below w.heap.size w w' :=
  (split_n E hs h1 hl hn).mono fun e w' h => ⟨⟨w.heap.size, h.1, Nat.le_refl _, by rw [h.2]; exact box1 w _⟩, by rw [h.2]; exact (Below.refl _ _).alloc (Nat.le_refl _) _⟩
/-- The cells of lines. -/
def lcells (l : List (Nat × List ByteArray)) (vs : List Value) : List Value := ((l.zip vs).map fun p => [Value.int .i64 ((p.1.1 : Nat) : Int), p.2]).flatten
theorem lcells_snoc {l : List (Nat × List ByteArray)} {vs : List Value} (h : vs.length = l.length) (p : Nat × List ByteArray) (v : Value) : lcells (l ++ [p]) (vs ++ [v]) = lcells l vs ++ [.int .i64 ((p.1 : Nat) : Int), v] := by
  unfold lcells
  rw [List.zip_append h.symm]
  simp
theorem info40z : (Tryz.prog.info? 40).map (fun i => (i.zero, i.size, i.bytes)) = some (some (.agg #[.int .i64 0, .slice none 0 0]), 2, 32) := by kernel_rfl
/-- Lines of the call's own. -/
structure LinesAt (W : World) (x : Value) (l : List (Nat × List ByteArray)) (vs : List Value) : Prop where
  len : vs.length = l.length
  row : W.ownsRow 0 40 2 x l.length (lcells l vs)
  each : ∀ (j : Nat) p v, l[j]? = some p → vs[j]? = some v → W.ownsRow 0 9 1 v p.2.length (strs p.2) ∧ ∀ b, v.ownBlock = some b → x.ownBlock ≠ some b
theorem LinesAt.nil (W : World) : LinesAt W (.slice none 0 0) [] [] := ⟨rfl, own_nil _ _ _, fun j p v h => by simp at h⟩
theorem LinesAt.below {W W' : World} {x : Value} {l : List (Nat × List ByteArray)} {vs : List Value} (h : LinesAt W x l vs) (b : Below W.heap.size W W') : LinesAt W' x l vs :=
  ⟨h.len, own_below h.row b (own_lt h.row), fun j p v hp hv => ⟨own_below (h.each j p v hp hv).1 b (own_lt (h.each j p v hp hv).1), (h.each j p v hp hv).2⟩⟩
theorem LinesAt.snoc {W W' : World} {x x' v : Value} {l : List (Nat × List ByteArray)} {vs : List Value} {k : Nat} {p : List ByteArray} (h : LinesAt W x l vs) (hv : W.ownsRow 0 9 1 v p.length (strs p)) (hvx : ∀ b, v.ownBlock = some b → x.ownBlock ≠ some b)
    (ho : W'.ownsRow 0 40 2 x' (l.length + 1) (lcells l vs ++ [.int .i64 (k : Int), v])) (hn : Nx W x x') (hf : FrV x W W') : LinesAt W' x' (l ++ [(k, p)]) (vs ++ [v]) := by
  have key : ∀ (u : Value) (q : List ByteArray), W.ownsRow 0 9 1 u q.length (strs q) → (∀ b, u.ownBlock = some b → x.ownBlock ≠ some b) → W'.ownsRow 0 9 1 u q.length (strs q) ∧ ∀ b, u.ownBlock = some b → x'.ownBlock ≠ some b := fun u q hu hux =>
    ⟨own_fr hu hf fun b hb => hux b hb, fun b hb hx' => by
      rcases hn with hn | ⟨g, hg, hgs⟩
      · rw [hn] at hx'; exact hux b hb hx'
      · rw [hg] at hx'; cases hx'; have := own_lt hu b hb; omega⟩
  refine ⟨by simp [h.len], by rw [lcells_snoc h.len, List.length_append]; exact ho, fun j q u hq hu => ?_⟩
  by_cases hj : j < l.length
  · rw [List.getElem?_append_left hj] at hq
    rw [List.getElem?_append_left (by rw [h.len]; exact hj)] at hu
    exact key u q.2 (h.each j q u hq hu).1 (h.each j q u hq hu).2
  · rw [List.getElem?_append_right (by omega)] at hq
    rw [List.getElem?_append_right (by rw [h.len]; omega)] at hu
    rw [h.len] at hu
    match j - l.length, hq, hu with
    | 0, hq, hu => cases hq; cases hu; exact key _ _ hv hvx
    | n + 1, hq, hu => simp at hq
/-- The lines of a text. -/
def linesT (f : ByteArray → List ByteArray × Int) (s : ByteArray) : List (Nat × List ByteArray) × Int × Nat := if 65536 < s.size then ([], 1, 0) else linesA f (pieces s ⟨#[10]⟩) 0 []
theorem piece_size {c : UInt8} {s x : ByteArray} (h : x ∈ cutB c s) : x.size ≤ s.size := by
  unfold cutB at h
  obtain ⟨l, hl, rfl⟩ := List.mem_map.1 h
  have := cutL_mem hl
  rw [len_data] at this
  exact this
theorem lo_ne {W : World} {x v : Value} {e sz n : Nat} {xs : List Value} (h : W.ownsRow 0 e sz x n xs) (hv : Lo W.heap.size v) : ∀ b, v.ownBlock = some b → x.ownBlock ≠ some b := fun b hb hx => by
  have h1 := hv b hb; have h2 := own_lt h b hx; omega
set_option maxRecDepth 100000 in
set_option maxHeartbeats 3200000 in
theorem lines_any {w : World} (E : Env w) {f : ByteArray → List ByteArray × Int} (hf : ∀ s, WSpec s (f s)) {s : ByteArray} {R : List (Nat × List ByteArray) × Int × Nat} (hR : linesT f s = R) :
    Calls Tryz.prog 25 #[.string s] w fun e' w' => ∃ x vs, e' = .returned (.tuple #[x, .int .i64 R.2.1, .int .i64 ((R.2.2 : Nat) : Int)]) ∧ LinesAt w' x R.1 vs ∧ Lo w.heap.size x ∧ (∀ v ∈ vs, Lo w.heap.size v) ∧ Below w.heap.size w w' := by
  unfold linesT at hR
  by_cases hlong : 65536 < s.size
  · rw [if_pos hlong] at hR
    subst hR
    have hd : decide ((65536 : Int) < s.size) = true := decide_eq_true (by omega)
    go_enter Tryz.func25, Tryz.ntmps25
    go_wp2
    go_ret3
    exact ⟨.slice none 0 0, [], rfl, LinesAt.nil _, Lo.nil _, (fun v hv => nomatch hv), Below.refl _ _⟩
  · rw [if_neg hlong] at hR
    have hd : decide ((65536 : Int) < s.size) = false := decide_eq_false (by omega)
    obtain ⟨ps, hps⟩ : ∃ ps, pieces s ⟨#[10]⟩ = ps := ⟨_, rfl⟩
    obtain ⟨n, hn⟩ : ∃ n, ps.length = n := ⟨_, rfl⟩
    have hsp := split_row E (s := s) (sep := ⟨#[10]⟩) (by omega) (by decide) hps hn
    have hsz : ∀ x ∈ ps, x.size ≤ 65536 := fun x hx => by
      rw [← hps, pieces_eq] at hx
      have := piece_size hx; omega
    have hnl : n ≤ 65537 := by
      rw [← hn, ← hps, pieces_eq]; unfold cutB
      rw [List.length_map]
      have := cutL_many 10 s.data.toList
      rw [len_data] at this; omega
    rw [hps] at hR
    have HR := Lib.hid hR
    have Hs := Lib.hid hsz
    clear hR hps hsz
    go_enter Tryz.func25, Tryz.ntmps25
    go_wp2_with (go_at_call 99; refine hsp.mono ?_; clear hsp; rintro e w1 ⟨⟨g, rfl, hg, hrow⟩, bel⟩; have hgl := lt_of_obj hrow; have hrow := Lib.hid hrow)
    go_loopw [5, 16] (fun x5 x16 wr => ∃ (j : Nat) (acc : List (Nat × List ByteArray)) (vs : List Value), x16 = .int .i64 j ∧ j ≤ n ∧ acc.length ≤ j ∧ Hid (linesA f (ps.drop j) j acc = R) ∧ Hid (LinesAt wr x5 acc vs) ∧ Lo w1.heap.size x5 ∧ Hid (∀ v ∈ vs, Lo w1.heap.size v) ∧ Below w1.heap.size w1 wr) (fun x5 x16 wr => n - (intOf x16).toNat)
    case atStart => exact ⟨0, [], [], rfl, Nat.zero_le _, Nat.le_refl _, HR, Lib.hid (LinesAt.nil _), Lo.nil _, Lib.hid (fun v hv => by cases hv), Below.refl _ _⟩
    case round =>
      obtain ⟨j, acc, vs, rfl, hj, hal, hL, hA, lo, los, bel1⟩ := hrel
      by_cases hlt : j < n
      · have hgj := List.getElem?_eq_getElem (l := ps) (i := j) (by omega)
        obtain ⟨p, hp⟩ : ∃ p, ps[j] = p := ⟨_, rfl⟩
        rw [hp] at hgj
        have q0 : w1.cell? ⟨g, j, none⟩ = some (.string p) := (row_cell hrow.out).trans (by rw [List.getElem?_toArray]; unfold strs; rw [List.getElem?_map, hgj]; rfl)
        have q1 : wr.cell? ⟨g, j, none⟩ = some (.string p) := (Below.cell (p := ⟨g, j, none⟩) bel1 hgl).trans q0
        have hps := Hs.out p (List.mem_of_getElem? hgj)
        have hdrop : ps.drop j = p :: ps.drop (j + 1) := by rw [List.drop_eq_getElem_cons (by omega), hp]
        have hwd := words_any (w := wr) (s := p) (R := f p) (by omega) (hf p)
        have hL2 := hL.out
        rw [hdrop] at hL2
        unfold linesA at hL2
        clear hL hdrop hp q0
        replace hgj := Lib.hid hgj
        have hw1 : IntKind.i64.wrap ((j : Int) + 1) = ((j + 1 : Nat) : Int) := (IntWalk.i64_in _ (by omega)).trans (by omega)
        generalize f p = q at hwd hL2
        obtain ⟨ws, e0⟩ := q
        simp only at hL2 hwd
        by_cases he : e0 = 0
        · subst he
          rw [if_pos rfl] at hL2
          cases ws with
          | nil =>
            rw [if_pos rfl] at hL2
            have hL3 := Lib.hid hL2
            clear hL2
            go_wp2_with (go_at_call 21; refine hwd.mono ?_; clear hwd; rintro e w2 ⟨v, rfl, ho, lov, bel2⟩; obtain ⟨A, c, rfl, hc1, hc2⟩ := own_slice ho)
            refine ⟨⟨j + 1, acc, vs, by congr 1, by omega, by omega, hL3, Lib.hid (hA.out.below bel2), lo, los, bel1.trans (bel2.mono bel1.size)⟩, by simp [intOf]; omega⟩
          | cons x ws =>
            rw [if_neg (by simp)] at hL2
            have hL3 := Lib.hid hL2
            clear hL2
            have hpos : 0 < (x :: ws).length := by simp
            generalize x :: ws = zs at *
            go_wp2_with (first | (go_at_call 21; refine hwd.mono ?_; clear hwd; rintro e w2 ⟨v, rfl, ho, lov, bel2⟩; have ho9 := Lib.hid ho; have hA2 := Lib.hid (hA.out.below bel2); have hvx := Lib.hid (lo_ne hA.out.row lov); obtain ⟨A, c, hv, hc1, hc2⟩ := own_slice ho; subst hv; clear ho) | (at_builtin; go_loud (refine wpList_app1 rfl (.tmp 34) (.tmp 39) 32 rfl Tryz.underlying32 info40z rfl (by decide) (by decide) [.int .i64 ((j + 1 : Nat) : Int), .slice A zs.length c] rfl (by intro z hz; simp at hz; rcases hz with rfl | rfl <;> rfl) rfl hA2.out.row rfl (by omega) ?_; intro v' w6 ho6 hn6 hf6)))
            refine ⟨⟨j + 1, acc ++ [(j + 1, zs)], vs ++ [.slice A zs.length c], by congr 1, by omega, by simp; omega, hL3, Lib.hid (hA2.out.snoc ho9.out hvx.out ho6 hn6 hf6), lo.next hn6 (Nat.le_trans bel1.size bel2.size), Lib.hid (fun u hu => (List.mem_append.1 hu).elim (los.out u) (fun h => by simp at h; subst h; exact lov.mono bel1.size)), (bel1.trans (bel2.mono bel1.size)).trans (hf6.belowB lo (Nat.le_trans bel1.size bel2.size))⟩, by simp [intOf]; omega⟩
        · rw [if_neg he] at hL2
          have hne : (e0 != 0) = true := by simpa using he
          have hL3 := Lib.hid hL2
          replace he := Lib.hid he
          clear hL2
          go_wp2_with (go_at_call 21; refine hwd.mono ?_; clear hwd; rintro e w2 ⟨v, rfl, ho, lov, bel2⟩; obtain ⟨A, c, rfl, hc1, hc2⟩ := own_slice ho)
          go_ret3
          exact ⟨.slice none 0 0, [], by rw [← hL3.out]; rfl, by rw [← hL3.out]; exact LinesAt.nil _, Lo.nil _, (fun v hv => nomatch hv), bel.trans ((bel1.trans (bel2.mono bel1.size)).mono bel.size)⟩
      · obtain rfl : j = n := by omega
        have hL2 := hL.out
        rw [List.drop_of_length_le (by omega)] at hL2
        have hL3 : Hid ((acc, (0 : Int), 0) = R) := Lib.hid hL2
        clear hL hL2
        go_wp2
        go_ret3
        exact ⟨_, vs, by rw [← hL3.out]; rfl, by rw [← hL3.out]; exact hA.out, lo.mono bel.size, fun v hv => (los.out v hv).mono bel.size, bel.trans (bel1.mono bel.size)⟩
end Go.Proofs.YtnljjlaececnkaaGreatDoor
/-
  The document's quoted word. No condition but the program's bound.
-/
namespace Go.Proofs.YtnljjlaececnkaaGreatDoor
open Go.RowKit
set_option linter.unusedVariables false
set_option linter.unusedSimpArgs false
theorem ext_one (t : ByteArray) (i : Nat) (h : i < t.size) : t.extract i (i + 1) = ⟨[t[i]].toArray⟩ := by
  apply ByteArray.ext
  apply Array.toList_inj.1
  rw [ext_list]
  have hg := get_byte t i h
  rw [List.drop_eq_getElem_cons (by rw [len_data]; exact h), Nat.add_sub_cancel_left, List.take_succ_cons, List.take_zero]
  have := List.getElem?_eq_getElem (l := t.data.toList) (i := i) (by rw [len_data]; exact h)
  rw [hg] at this
  rw [← Option.some.inj this]
theorem rmay_num {n : Int} {c : UInt8} {b : Bool} (h : (c.toNat : Int) = n) (hb : mayB c = b) (w : World) : Calls Tryz.prog 97 #[.int .u8 n] w fun e w' => e = .returned (.bool b) ∧ w' = w := by
  subst h hb; exact rmay_any c
set_option maxRecDepth 100000 in
set_option maxHeartbeats 12800000 in
theorem rquoted_any {w : World} {t : ByteArray} {r0 : List UInt8} {R : List UInt8 × List UInt8 × Int} (hs : t.size < 4294967281) (ht : t.data.toList.drop 1 = r0) (h1 : 1 ≤ t.size) (hR : quotS r0 [] = R) :
    Calls Tryz.prog 98 #[.string t] w fun e' w' => ∃ (y : ByteArray) (n : Int), e' = .returned (.tuple #[.string y, .int .i64 n, .int .i64 R.2.2]) ∧ (R.2.2 = 0 → y = ⟨R.1.toArray⟩ ∧ ∃ k : Nat, n = k ∧ 1 ≤ k ∧ k ≤ t.size ∧ t.data.toList.drop k = R.2.1) ∧ w' = w := by
  subst ht
  have HR := Lib.hid hR
  clear hR
  go_enter Tryz.func98, Tryz.ntmps98
  go_wp2
  go_loop [5, 6] (fun x5 x6 => ∃ (i : Nat) (acc : List UInt8), 1 ≤ i ∧ i ≤ t.size ∧ acc.length ≤ i ∧ x5 = .string ⟨acc.toArray⟩ ∧ x6 = .int .i64 i ∧ Hid (quotS (t.data.toList.drop i) acc = R)) (fun _ x6 => t.size - (intOf x6).toNat)
  case atStart => exact ⟨1, [], Nat.le_refl _, h1, by simp, rfl, rfl, HR⟩
  case round =>
    obtain ⟨i, acc, hi1, h2, h3, rfl, rfl, hr⟩ := hrel
    obtain ⟨l, hl⟩ : ∃ l, t.data.toList.drop i = l := ⟨_, rfl⟩
    rw [hl] at hr
    have hL1 : ¬ 9223372036854775807 < acc.length + 1 := by omega
    cases l with
    | nil =>
      obtain rfl := drop_nil h2 hl
      have hR : Hid (R = ([], [], 80)) := Lib.hid hr.out.symm
      clear hr hl
      go_wp2
      go_ret3
      exact ⟨⟨#[]⟩, 0, by rw [hR.out]; rfl, fun h => absurd h (by rw [hR.out]; simp), rfl⟩
    | cons c r =>
      obtain ⟨hlt, hc, hd⟩ := drop_cons hl
      subst hc
      have hw1 : IntKind.i64.wrap ((i : Int) + 1) = ((i + 1 : Nat) : Int) := (IntWalk.i64_in _ (by omega)).trans (by omega)
      have hw2 : IntKind.i64.wrap ((i : Int) + 2) = ((i + 2 : Nat) : Int) := (IntWalk.i64_in _ (by omega)).trans (by omega)
      have hx1 := ext_one t i hlt
      by_cases hm : mayB t[i] = false
      · have k1 := rmay_num (c := t[i]) rfl hm
        have hR : Hid (R = ([], t[i] :: r, 81)) := Lib.hid (by rw [← hr.out]; unfold quotS; rw [if_pos hm])
        clear hr hl hd
        go_wp2_with (go_at_call 97; (first | with_reducible refine (k1 _).mono ?_ | with_reducible refine (k2 _).mono ?_); rintro e' w' ⟨rfl, rfl⟩)
        go_ret3
        exact ⟨⟨#[]⟩, 0, by rw [hR.out]; rfl, fun h => absurd h (by rw [hR.out]; simp), rfl⟩
      · have hm2 : mayB t[i] = true := by simpa using hm
        by_cases h34 : t[i] = 34
        · have hv : t[i].toNat = 34 := by rw [h34]; rfl
          have k1 := rmay_num (n := 34) (c := t[i]) (by rw [hv]; rfl) hm2
          cases r with
          | nil =>
            have hsz : i + 1 = t.size := drop_nil (by omega) hd
            have hR : Hid (R = (acc, [], 0)) := Lib.hid (by rw [← hr.out]; unfold quotS; rw [if_neg hm, if_pos h34])
            have hd' := Lib.hid hd
            clear hr hl hd
            go_wp2_with (go_at_call 97; (first | with_reducible refine (k1 _).mono ?_ | with_reducible refine (k2 _).mono ?_); rintro e' w' ⟨rfl, rfl⟩)
            go_ret3
            exact ⟨⟨acc.toArray⟩, (i + 1 : Nat), by rw [hR.out, hsz]; rfl, fun h => ⟨by rw [hR.out], i + 1, rfl, by omega, by omega, by rw [hR.out]; exact hd'.out⟩, rfl⟩
          | cons d r2 =>
            obtain ⟨hlt2, hc2, hd2⟩ := drop_cons hd
            subst hc2
            by_cases h32 : t[i + 1] = 32
            · have hv2 : t[i + 1].toNat = 32 := by rw [h32]; rfl
              have hm3 : ¬ mayB t[i + 1] = false := by rw [h32]; decide
              have k2 := rmay_num (n := 32) (c := t[i + 1]) (b := true) (by rw [hv2]; rfl) (by rw [h32]; decide)
              have hR : Hid (R = (acc, t[i + 1] :: r2, 0)) := Lib.hid (by rw [← hr.out]; unfold quotS; rw [if_neg hm, if_pos h34]; exact (if_neg hm3).trans (if_pos h32))
              have hd' := Lib.hid hd
              clear hr hl hd
              go_wp2_with (go_at_call 97; (first | with_reducible refine (k1 _).mono ?_ | with_reducible refine (k2 _).mono ?_); rintro e' w' ⟨rfl, rfl⟩)
              go_ret3
              exact ⟨⟨acc.toArray⟩, (i + 1 : Nat), by rw [hR.out]; rfl, fun h => ⟨by rw [hR.out], i + 1, rfl, by omega, by omega, by rw [hR.out]; exact hd'.out⟩, rfl⟩
            · have hn2 : t[i + 1].toNat ≠ 32 := fun e => h32 (UInt8.toNat_inj.1 e)
              by_cases hm3 : mayB t[i + 1] = false
              · have k2 := rmay_num (c := t[i + 1]) rfl hm3
                have hR : Hid (R = ([], t[i + 1] :: r2, 81)) := Lib.hid (by rw [← hr.out]; unfold quotS; rw [if_neg hm, if_pos h34]; exact if_pos hm3)
                clear hr hl hd
                go_wp2_with (go_at_call 97; (first | with_reducible refine (k1 _).mono ?_ | with_reducible refine (k2 _).mono ?_); rintro e' w' ⟨rfl, rfl⟩)
                go_ret3
                exact ⟨⟨#[]⟩, 0, by rw [hR.out]; rfl, fun h => absurd h (by rw [hR.out]; simp), rfl⟩
              · have hm4 : mayB t[i + 1] = true := by simpa using hm3
                have k2 := rmay_num (c := t[i + 1]) rfl hm4
                have hR : Hid (R = ([], t[i + 1] :: r2, 80)) := Lib.hid (by rw [← hr.out]; unfold quotS; rw [if_neg hm, if_pos h34]; exact (if_neg hm3).trans (if_neg h32))
                clear hr hl hd
                go_wp2_with (go_at_call 97; (first | with_reducible refine (k1 _).mono ?_ | with_reducible refine (k2 _).mono ?_); rintro e' w' ⟨rfl, rfl⟩)
                go_ret3
                exact ⟨⟨#[]⟩, 0, by rw [hR.out]; rfl, fun h => absurd h (by rw [hR.out]; simp), rfl⟩
        · have hn3 : t[i].toNat ≠ 34 := fun e => h34 (UInt8.toNat_inj.1 e)
          by_cases h92 : t[i] = 92
          · have hv : t[i].toNat = 92 := by rw [h92]; rfl
            have k1 := rmay_num (n := 92) (c := t[i]) (by rw [hv]; rfl) hm2
            cases r with
            | nil =>
              have hsz : i + 1 = t.size := drop_nil (by omega) hd
              have hR : Hid (R = ([], [], 80)) := Lib.hid (by rw [← hr.out]; unfold quotS; rw [if_neg hm, if_neg h34, if_pos h92])
              clear hr hl hd
              go_wp2_with (go_at_call 97; (first | with_reducible refine (k1 _).mono ?_ | with_reducible refine (k2 _).mono ?_); rintro e' w' ⟨rfl, rfl⟩)
              go_ret3
              exact ⟨⟨#[]⟩, 0, by rw [hR.out]; rfl, fun h => absurd h (by rw [hR.out]; simp), rfl⟩
            | cons d r2 =>
              obtain ⟨hlt2, hc2, hd2⟩ := drop_cons hd
              subst hc2
              have hx2 := ext_one t (i + 1) hlt2
              by_cases hm3 : mayB t[i + 1] = false
              · have k2 := rmay_num (c := t[i + 1]) rfl hm3
                have hR : Hid (R = ([], t[i + 1] :: r2, 81)) := Lib.hid (by rw [← hr.out]; unfold quotS; rw [if_neg hm, if_neg h34, if_pos h92]; exact if_pos hm3)
                clear hr hl hd
                go_wp2_with (go_at_call 97; (first | with_reducible refine (k1 _).mono ?_ | with_reducible refine (k2 _).mono ?_); rintro e' w' ⟨rfl, rfl⟩)
                go_ret3
                exact ⟨⟨#[]⟩, 0, by rw [hR.out]; rfl, fun h => absurd h (by rw [hR.out]; simp), rfl⟩
              · have hm4 : mayB t[i + 1] = true := by simpa using hm3
                by_cases k34 : t[i + 1] = 34
                · have hv2 : t[i + 1].toNat = 34 := by rw [k34]; rfl
                  have k2 := rmay_num (n := 34) (c := t[i + 1]) (by rw [hv2]; rfl) hm4
                  have hnx : Hid (quotS (t.data.toList.drop (i + 2)) (acc ++ [t[i + 1]]) = R) := Lib.hid (by rw [hd2, ← hr.out]; conv => rhs; unfold quotS; rw [if_neg hm, if_neg h34, if_pos h92]; simp only; rw [if_neg hm3, if_pos (.inl k34)])
                  clear hr hl hd hd2
                  go_wp2_with (go_at_call 97; (first | with_reducible refine (k1 _).mono ?_ | with_reducible refine (k2 _).mono ?_); rintro e' w' ⟨rfl, rfl⟩)
                  refine ⟨⟨i + 2, acc ++ [t[i + 1]], by omega, by omega, by simp; omega, by rw [← ba_cat]; (try simp only [k34]); (try rfl), by congr 1, hnx⟩, by simp [intOf]; omega⟩
                · have hn5 : t[i + 1].toNat ≠ 34 := fun e => k34 (UInt8.toNat_inj.1 e)
                  by_cases k92 : t[i + 1] = 92
                  · have hv2 : t[i + 1].toNat = 92 := by rw [k92]; rfl
                    have k2 := rmay_num (n := 92) (c := t[i + 1]) (by rw [hv2]; rfl) hm4
                    have hnx : Hid (quotS (t.data.toList.drop (i + 2)) (acc ++ [t[i + 1]]) = R) := Lib.hid (by rw [hd2, ← hr.out]; conv => rhs; unfold quotS; rw [if_neg hm, if_neg h34, if_pos h92]; simp only; rw [if_neg hm3, if_pos (.inr k92)])
                    clear hr hl hd hd2
                    go_wp2_with (go_at_call 97; (first | with_reducible refine (k1 _).mono ?_ | with_reducible refine (k2 _).mono ?_); rintro e' w' ⟨rfl, rfl⟩)
                    refine ⟨⟨i + 2, acc ++ [t[i + 1]], by omega, by omega, by simp; omega, by rw [← ba_cat]; (try simp only [k92]); (try rfl), by congr 1, hnx⟩, by simp [intOf]; omega⟩
                  · have hn6 : t[i + 1].toNat ≠ 92 := fun e => k92 (UInt8.toNat_inj.1 e)
                    have hb5 : ((t[i + 1].toNat : Int) != 34) = true := bne_iff_ne.mpr (by omega)
                    have hb6 : ((t[i + 1].toNat : Int) != 92) = true := bne_iff_ne.mpr (by omega)
                    have k2 := rmay_num (c := t[i + 1]) rfl hm4
                    have hR : Hid (R = ([], t[i + 1] :: r2, 80)) := Lib.hid (by rw [← hr.out]; unfold quotS; rw [if_neg hm, if_neg h34, if_pos h92]; exact (if_neg hm3).trans (if_neg (fun h => h.elim k34 k92)))
                    clear hr hl hd
                    go_wp2_with (go_at_call 97; (first | with_reducible refine (k1 _).mono ?_ | with_reducible refine (k2 _).mono ?_); rintro e' w' ⟨rfl, rfl⟩)
                    go_ret3
                    exact ⟨⟨#[]⟩, 0, by rw [hR.out]; rfl, fun h => absurd h (by rw [hR.out]; simp), rfl⟩
          · have hn4 : t[i].toNat ≠ 92 := fun e => h92 (UInt8.toNat_inj.1 e)
            have k1 := rmay_num (c := t[i]) rfl hm2
            have hnx : Hid (quotS (t.data.toList.drop (i + 1)) (acc ++ [t[i]]) = R) := Lib.hid (by rw [hd, ← hr.out]; conv => rhs; unfold quotS; rw [if_neg hm, if_neg h34, if_neg h92])
            clear hr hl hd
            go_wp2_with (go_at_call 97; (first | with_reducible refine (k1 _).mono ?_ | with_reducible refine (k2 _).mono ?_); rintro e' w' ⟨rfl, rfl⟩)
            refine ⟨⟨i + 1, acc ++ [t[i]], by omega, by omega, by simp; omega, by rw [← ba_cat], by congr 1, hnx⟩, by simp [intOf]; omega⟩
end Go.Proofs.YtnljjlaececnkaaGreatDoor
/-
  Are two lists of texts alike? No condition.
-/
namespace Go.Proofs.YtnljjlaececnkaaGreatDoor
open Go.RowKit
set_option linter.unusedVariables false
set_option linter.unusedSimpArgs false
theorem errnum_any {w : World} {n : Int} : Calls Tryz.prog 23 #[.int .i64 n] w fun e w' => e = .returned (.int .i64 n) ∧ w' = w := by
  go_enter Tryz.func23, Tryz.ntmps23
  go_wp2
  go_ret
  exact ⟨rfl, rfl⟩
set_option maxRecDepth 100000 in
set_option maxHeartbeats 1600000 in
/-- Two rows of the same texts are alike. -/
theorem texts_yes {w : World} {k1 k2 c1 c2 : Nat} {xs : List ByteArray} (hn : xs.length ≤ 100000) (hk1 : k1 < w.heap.size) (hk2 : k2 < w.heap.size) (h1 : ∀ (j : Nat) x, xs[j]? = some x → w.cell? ⟨k1, j, none⟩ = some (.string x)) (h2 : ∀ (j : Nat) x, xs[j]? = some x → w.cell? ⟨k2, j, none⟩ = some (.string x)) :
    Calls Tryz.prog 22 #[.slice (some ⟨k1, 0, none⟩) xs.length c1, .slice (some ⟨k2, 0, none⟩) xs.length c2] w fun e w' => e = .returned (.bool true) ∧ Below w.heap.size w w' := by
  have H1 := Lib.hid h1
  have H2 := Lib.hid h2
  clear h1 h2
  go_enter Tryz.func22, Tryz.ntmps22
  go_wp2
  go_loopw [5] (fun x5 wr => ∃ i : Nat, i ≤ xs.length ∧ x5 = .int .i64 i ∧ Below w.heap.size w wr) (fun x5 wr => xs.length - (intOf x5).toNat)
  case atStart => exact ⟨0, Nat.zero_le _, rfl, Below.refl _ _⟩
  case round =>
    obtain ⟨i, hi, rfl, bel⟩ := hrel
    by_cases hlt : i < xs.length
    · have hx := List.getElem?_eq_getElem hlt
      have q1 : wr.cell? ⟨k1, i, none⟩ = some (.string xs[i]) := Below.cell (p := ⟨k1, i, none⟩) bel hk1 |>.trans (H1.out i _ hx)
      have q2 : wr.cell? ⟨k2, i, none⟩ = some (.string xs[i]) := Below.cell (p := ⟨k2, i, none⟩) bel hk2 |>.trans (H2.out i _ hx)
      replace hx := Lib.hid hx
      go_wp2
      go_quiet (fail)
      go_wp2
      refine ⟨⟨i + 1, by omega, by congr 1, below_drewN bel _⟩, by simp [intOf]; omega⟩
    · obtain rfl : i = xs.length := by omega
      go_wp2
      go_ret
      exact ⟨rfl, bel⟩
end Go.Proofs.YtnljjlaececnkaaGreatDoor
/-
  Are two lists of lines alike? No condition.
-/
namespace Go.Proofs.YtnljjlaececnkaaGreatDoor
open Go.RowKit
set_option linter.unusedVariables false
set_option linter.unusedSimpArgs false
theorem texts_nil {w : World} {A B : Option Addr} {c d : Nat} : Calls Tryz.prog 22 #[.slice A 0 c, .slice B 0 d] w fun e w' => e = .returned (.bool true) ∧ Below w.heap.size w w' := by
  go_enter Tryz.func22, Tryz.ntmps22
  go_wp2
  go_loopw [5] (fun x5 wr => x5 = .int .i64 0 ∧ Below w.heap.size w wr) (fun x5 wr => 0)
  case atStart => exact ⟨rfl, Below.refl _ _⟩
  case round =>
    obtain ⟨rfl, bel⟩ := hrel
    go_wp2
    go_ret
    exact ⟨rfl, bel⟩
/-- Two rows of the same texts are alike. -/
theorem texts_own {w : World} {x y : Value} {n m : Nat} {xs : List ByteArray} (hn : xs.length ≤ 100000) (h1 : w.ownsRow 0 9 1 x n (strs xs)) (h2 : w.ownsRow 0 9 1 y m (strs xs)) (en : xs.length = n) (em : xs.length = m) :
    Calls Tryz.prog 22 #[x, y] w fun e w' => e = .returned (.bool true) ∧ Below w.heap.size w w' := by
  subst en em
  obtain ⟨A, c, rfl, -, -⟩ := own_slice h1
  obtain ⟨B, d, rfl, -, -⟩ := own_slice h2
  by_cases h0 : 0 < xs.length
  · obtain ⟨k1, rfl, -, hk1, hc1, -⟩ := own_at h1 h0
    obtain ⟨k2, rfl, -, hk2, hc2, -⟩ := own_at h2 h0
    have key : ∀ (j : Nat) (z : ByteArray), xs[j]? = some z → (strs xs)[j]? = some (.string z) := fun j z hz => by unfold strs; rw [List.getElem?_map, hz]; rfl
    exact texts_yes hn hk1 hk2 (fun j z hz => hc1 j _ (key j z hz)) (fun j z hz => hc2 j _ (key j z hz))
  · have : xs.length = 0 := by omega
    rw [this]
    exact texts_nil
theorem lcells_at : ∀ {l : List (Nat × List ByteArray)} {vs : List Value} {j : Nat} {p : Nat × List ByteArray} {v : Value}, l[j]? = some p → vs[j]? = some v → (lcells l vs)[j * 2]? = some (.int .i64 (p.1 : Int)) ∧ (lcells l vs)[j * 2 + 1]? = some v
  | q :: l, u :: vs, 0, p, v, h1, h2 => by cases h1; cases h2; exact ⟨rfl, rfl⟩
  | q :: l, u :: vs, j + 1, p, v, h1, h2 => by
    have ih := lcells_at (l := l) (vs := vs) (j := j) h1 h2
    have e1 : lcells (q :: l) (u :: vs) = .int .i64 (q.1 : Int) :: u :: lcells l vs := rfl
    rw [e1, Nat.succ_mul]
    exact ih
  | [], _, _, _, _, h1, _ => by simp at h1
  | _ :: _, [], _, _, _, _, h2 => by simp at h2
theorem LinesAt.cells {w : World} {A : Option Addr} {m c : Nat} {l : List (Nat × List ByteArray)} {vs : List Value} (h : LinesAt w (.slice A m c) l vs) (h0 : 0 < l.length) : ∃ k, A = some ⟨k, 0, none⟩ ∧ k < w.heap.size ∧ ∀ j p v, l[j]? = some p → vs[j]? = some v → w.cell? ⟨k, j * 2, none⟩ = some (.int .i64 (p.1 : Int)) ∧ w.cell? ⟨k, j * 2 + 1, none⟩ = some v := by
  obtain ⟨k, rfl, -, hk, hc, -⟩ := own_at h.row h0
  exact ⟨k, rfl, hk, fun j p v hp hv => ⟨hc _ _ (lcells_at hp hv).1, hc _ _ (lcells_at hp hv).2⟩⟩
theorem same_nil {w : World} {A B : Option Addr} {c d : Nat} : Calls Tryz.prog 27 #[.slice A 0 c, .slice B 0 d] w fun e w' => e = .returned (.bool true) ∧ Below w.heap.size w w' := by
  go_enter Tryz.func27, Tryz.ntmps27
  go_wp2
  go_loopw [5] (fun x5 wr => x5 = .int .i64 0 ∧ Below w.heap.size w wr) (fun x5 wr => 0)
  case atStart => exact ⟨rfl, Below.refl _ _⟩
  case round =>
    obtain ⟨rfl, bel⟩ := hrel
    go_wp2
    go_ret
    exact ⟨rfl, bel⟩
set_option maxRecDepth 100000 in
set_option maxHeartbeats 3200000 in
/-- Two lists of the same lines are alike. -/
theorem same_yes {w : World} {x y : Value} {l : List (Nat × List ByteArray)} {vs us : List Value} (hx : LinesAt w x l vs) (hy : LinesAt w y l us) (hn : l.length ≤ 100000) (hw : ∀ p ∈ l, p.2.length ≤ 100000) :
    Calls Tryz.prog 27 #[x, y] w fun e w' => e = .returned (.bool true) ∧ Below w.heap.size w w' := by
  obtain ⟨A, c, rfl, -, -⟩ := own_slice hx.row
  obtain ⟨B, d, rfl, -, -⟩ := own_slice hy.row
  by_cases h0 : 0 < l.length
  · obtain ⟨k1, rfl, hk1, hc1⟩ := hx.cells h0
    obtain ⟨k2, rfl, hk2, hc2⟩ := hy.cells h0
    obtain ⟨n, hnl⟩ : ∃ n, l.length = n := ⟨_, rfl⟩
    rw [hnl] at hn h0 ⊢
    have HX := Lib.hid hx
    have HY := Lib.hid hy
    have HC1 := Lib.hid hc1
    have HC2 := Lib.hid hc2
    have HW := Lib.hid hw
    clear hx hy hc1 hc2 hw
    go_enter Tryz.func27, Tryz.ntmps27
    go_wp2
    go_loopw [5] (fun x5 wr => ∃ i : Nat, i ≤ n ∧ x5 = .int .i64 i ∧ Below w.heap.size w wr) (fun x5 wr => n - (intOf x5).toNat)
    case atStart => exact ⟨0, Nat.zero_le _, rfl, Below.refl _ _⟩
    case round =>
      obtain ⟨i, hi, rfl, bel⟩ := hrel
      by_cases hlt : i < n
      · obtain ⟨p, hp⟩ : ∃ p, l[i]? = some p := ⟨_, List.getElem?_eq_getElem (by omega)⟩
        obtain ⟨v, hv⟩ : ∃ v, vs[i]? = some v := ⟨_, List.getElem?_eq_getElem (by rw [HX.out.len]; omega)⟩
        obtain ⟨u, hu⟩ : ∃ v, us[i]? = some v := ⟨_, List.getElem?_eq_getElem (by rw [HY.out.len]; omega)⟩
        obtain ⟨a1, a2⟩ := HC1.out i p v hp hv
        obtain ⟨b1, b2⟩ := HC2.out i p u hp hu
        have ov := (HX.out.each i p v hp hv).1
        have ou := (HY.out.each i p u hp hu).1
        have hpl := HW.out p (List.mem_of_getElem? hp)
        have hct := fun (W : World) (hb : Below w.heap.size w W) => texts_own hpl (own_below ov hb (own_lt ov)) (own_below ou hb (own_lt ou)) rfl rfl
        replace hct := Lib.hid hct
        have ca1 := fun (W : World) (hb : Below w.heap.size w W) => (Below.cell (p := ⟨k1, i * 2, none⟩) hb hk1).trans a1
        have ca2 := fun (W : World) (hb : Below w.heap.size w W) => (Below.cell (p := ⟨k1, i * 2 + 1, none⟩) hb hk1).trans a2
        have cb1 := fun (W : World) (hb : Below w.heap.size w W) => (Below.cell (p := ⟨k2, i * 2, none⟩) hb hk2).trans b1
        have cb2 := fun (W : World) (hb : Below w.heap.size w W) => (Below.cell (p := ⟨k2, i * 2 + 1, none⟩) hb hk2).trans b2
        replace ca1 := Lib.hid ca1
        replace ca2 := Lib.hid ca2
        replace cb1 := Lib.hid cb1
        replace cb2 := Lib.hid cb2
        clear a1 a2 b1 b2 ov ou hp hv hu hpl
        go_wp2
        refine wp_region_C (C := fun W => Below w.heap.size w W) (by kernel_rfl) (by kernel_rfl) (below_drewN bel 1) ?_
        refine wpQuiet_hide ?_
        intro lq hlq
        refine wpQuiet_step_h hlq ?_
        clear hlq lq
        intro K lq hlq hK
        refine wanted_go (by rfl) ?_
        refine ⟨?_, fun W hW => ?_, ?_⟩
        rotate_left
        · have d1 := ca1.out _ hW; have d2 := cb1.out _ hW
          go_simp
          with_reducible rfl
        refine hK _ ?_
        clear hK K
        (try simp only [Act.put, List.setIfInBounds_toArray, List.set_cons_zero, List.set_cons_succ])
        refine wpQuiet_step_h hlq ?_
        clear hlq lq
        intro K lq hlq hK
        refine wanted_go (by rfl) ?_
        refine ⟨?_, fun W hW => ?_, ?_⟩
        rotate_left
        · have d1 := ca1.out _ hW; have d2 := cb1.out _ hW
          go_simp
          with_reducible rfl
        refine hK _ ?_
        clear hK K
        (try simp only [Act.put, List.setIfInBounds_toArray, List.set_cons_zero, List.set_cons_succ])
        refine wpQuiet_step_h hlq ?_
        clear hlq lq
        intro K lq hlq hK
        refine wanted_go (by rfl) ?_
        refine ⟨?_, fun W hW => ?_, ?_⟩
        rotate_left
        · have d1 := ca1.out _ hW; have d2 := cb1.out _ hW
          go_simp
          with_reducible rfl
        refine hK _ ?_
        clear hK K
        (try simp only [Act.put, List.setIfInBounds_toArray, List.set_cons_zero, List.set_cons_succ])
        refine wpQuiet_step_h hlq ?_
        clear hlq lq
        intro K lq hlq hK
        refine wanted_go (by rfl) ?_
        refine ⟨?_, fun W hW => ?_, ?_⟩
        rotate_left
        · have d1 := ca1.out _ hW; have d2 := cb1.out _ hW
          go_simp
          with_reducible rfl
        refine hK _ ?_
        clear hK K
        (try simp only [Act.put, List.setIfInBounds_toArray, List.set_cons_zero, List.set_cons_succ])
        refine wpQuiet_step_h hlq ?_
        clear hlq lq
        intro K lq hlq hK
        refine wanted_go (by rfl) ?_
        refine ⟨?_, fun W hW => ?_, ?_⟩
        rotate_left
        · have d1 := ca1.out _ hW; have d2 := cb1.out _ hW
          go_simp
          with_reducible rfl
        refine hK _ ?_
        clear hK K
        (try simp only [Act.put, List.setIfInBounds_toArray, List.set_cons_zero, List.set_cons_succ])
        refine wpQuiet_step_h hlq ?_
        clear hlq lq
        intro K lq hlq hK
        refine wanted_go (by rfl) ?_
        refine ⟨?_, fun W hW => ?_, ?_⟩
        rotate_left
        · have d1 := ca1.out _ hW; have d2 := cb1.out _ hW
          go_simp
          with_reducible rfl
        refine hK _ ?_
        clear hK K
        (try simp only [Act.put, List.setIfInBounds_toArray, List.set_cons_zero, List.set_cons_succ])
        refine wpQuiet_step_h hlq ?_
        clear hlq lq
        intro K lq hlq hK
        refine wanted_go (by rfl) ?_
        refine ⟨?_, fun W hW => ?_, ?_⟩
        rotate_left
        · have d1 := ca1.out _ hW; have d2 := cb1.out _ hW
          go_simp
          with_reducible rfl
        refine hK _ ?_
        clear hK K
        (try simp only [Act.put, List.setIfInBounds_toArray, List.set_cons_zero, List.set_cons_succ])
        refine wpQuiet_step_h hlq ?_
        clear hlq lq
        intro K lq hlq hK
        refine wanted_go (by rfl) ?_
        refine ⟨?_, fun W hW => ?_, ?_⟩
        rotate_left
        · have d1 := ca1.out _ hW; have d2 := cb1.out _ hW
          go_simp
          with_reducible rfl
        refine hK _ ?_
        clear hK K
        (try simp only [Act.put, List.setIfInBounds_toArray, List.set_cons_zero, List.set_cons_succ])
        refine wpQuiet_step_h hlq ?_
        clear hlq lq
        intro K lq hlq hK
        refine wanted_go (by rfl) ?_
        refine ⟨?_, fun W hW => ?_, ?_⟩
        rotate_left
        · have d1 := ca1.out _ hW; have d2 := cb1.out _ hW
          go_simp
          with_reducible rfl
        refine hK _ ?_
        clear hK K
        (try simp only [Act.put, List.setIfInBounds_toArray, List.set_cons_zero, List.set_cons_succ])
        refine wpQuiet_step_h hlq ?_
        clear hlq lq
        intro K lq hlq hK
        refine wanted_go (by rfl) ?_
        refine ⟨?_, fun W hW => ?_, ?_⟩
        rotate_left
        · have d1 := ca1.out _ hW; have d2 := cb1.out _ hW
          go_simp
          with_reducible rfl
        refine hK _ ?_
        clear hK K
        (try simp only [Act.put, List.setIfInBounds_toArray, List.set_cons_zero, List.set_cons_succ])
        refine wpQuiet_step_h hlq ?_
        clear hlq lq
        intro K lq hlq hK
        refine wanted_go (by rfl) ?_
        refine ⟨?_, fun W hW => ?_, ?_⟩
        rotate_left
        · have d1 := ca1.out _ hW; have d2 := cb1.out _ hW
          go_simp
          with_reducible rfl
        refine hK _ ?_
        clear hK K
        (try simp only [Act.put, List.setIfInBounds_toArray, List.set_cons_zero, List.set_cons_succ])
        refine wpQuiet_step_h hlq ?_
        clear hlq lq
        intro K lq hlq hK
        refine wanted_go (by rfl) ?_
        refine ⟨?_, fun W hW => ?_, ?_⟩
        rotate_left
        · have d1 := ca1.out _ hW; have d2 := cb1.out _ hW
          go_simp
          with_reducible rfl
        refine hK _ ?_
        clear hK K
        (try simp only [Act.put, List.setIfInBounds_toArray, List.set_cons_zero, List.set_cons_succ])
        refine wpQuiet_step_h hlq ?_
        clear hlq lq
        intro K lq hlq hK
        refine wanted_go (by rfl) ?_
        refine ⟨?_, fun W hW => ?_, ?_⟩
        rotate_left
        · have d1 := ca1.out _ hW; have d2 := cb1.out _ hW
          go_simp
          with_reducible rfl
        refine hK _ ?_
        clear hK K
        (try simp only [Act.put, List.setIfInBounds_toArray, List.set_cons_zero, List.set_cons_succ])
        refine wpQuiet_step_h hlq ?_
        clear hlq lq
        intro K lq hlq hK
        refine wanted_go (by rfl) ?_
        refine ⟨?_, fun W hW => ?_, ?_⟩
        rotate_left
        · have d1 := ca1.out _ hW; have d2 := cb1.out _ hW
          go_simp
          with_reducible rfl
        refine hK _ ?_
        clear hK K
        (try simp only [Act.put, List.setIfInBounds_toArray, List.set_cons_zero, List.set_cons_succ])
        refine wpQuiet_step_h hlq ?_
        clear hlq lq
        intro K lq hlq hK
        refine wanted_go (by rfl) ?_
        refine ⟨?_, fun W hW => ?_, ?_⟩
        rotate_left
        · have d1 := ca1.out _ hW; have d2 := cb1.out _ hW
          go_simp
          with_reducible rfl
        refine hK _ ?_
        clear hK K
        (try simp only [Act.put, List.setIfInBounds_toArray, List.set_cons_zero, List.set_cons_succ])
        refine wpQuiet_step_h hlq ?_
        clear hlq lq
        intro K lq hlq hK
        refine wanted_go (by rfl) ?_
        refine ⟨?_, fun W hW => ?_, ?_⟩
        rotate_left
        · have d1 := ca1.out _ hW; have d2 := cb1.out _ hW
          go_simp
          with_reducible rfl
        refine hK _ ?_
        clear hK K
        (try simp only [Act.put, List.setIfInBounds_toArray, List.set_cons_zero, List.set_cons_succ])
        refine wpQuiet_step_h hlq ?_
        clear hlq lq
        intro K lq hlq hK
        refine wanted_go (by rfl) ?_
        refine ⟨v, fun W hW => ?_, ?_⟩
        · have d1 := ca1.out _ hW; have d2 := cb1.out _ hW
          exact quiet_load 23 _ rfl rfl (loadVar_slice Tryz.underlying23 (ca2.out _ hW))
        refine hK _ ?_
        clear hK K
        (try simp only [Act.put, List.setIfInBounds_toArray, List.set_cons_zero, List.set_cons_succ])
        refine wpQuiet_step_h hlq ?_
        clear hlq lq
        intro K lq hlq hK
        refine wanted_go (by rfl) ?_
        refine ⟨?_, fun W hW => ?_, ?_⟩
        rotate_left
        · have d1 := ca1.out _ hW; have d2 := cb1.out _ hW
          go_simp
          with_reducible rfl
        refine hK _ ?_
        clear hK K
        (try simp only [Act.put, List.setIfInBounds_toArray, List.set_cons_zero, List.set_cons_succ])
        refine wpQuiet_step_h hlq ?_
        clear hlq lq
        intro K lq hlq hK
        refine wanted_go (by rfl) ?_
        refine ⟨?_, fun W hW => ?_, ?_⟩
        rotate_left
        · have d1 := ca1.out _ hW; have d2 := cb1.out _ hW
          go_simp
          with_reducible rfl
        refine hK _ ?_
        clear hK K
        (try simp only [Act.put, List.setIfInBounds_toArray, List.set_cons_zero, List.set_cons_succ])
        refine wpQuiet_step_h hlq ?_
        clear hlq lq
        intro K lq hlq hK
        refine wanted_go (by rfl) ?_
        refine ⟨?_, fun W hW => ?_, ?_⟩
        rotate_left
        · have d1 := ca1.out _ hW; have d2 := cb1.out _ hW
          go_simp
          with_reducible rfl
        refine hK _ ?_
        clear hK K
        (try simp only [Act.put, List.setIfInBounds_toArray, List.set_cons_zero, List.set_cons_succ])
        refine wpQuiet_step_h hlq ?_
        clear hlq lq
        intro K lq hlq hK
        refine wanted_go (by rfl) ?_
        refine ⟨?_, fun W hW => ?_, ?_⟩
        rotate_left
        · have d1 := ca1.out _ hW; have d2 := cb1.out _ hW
          go_simp
          with_reducible rfl
        refine hK _ ?_
        clear hK K
        (try simp only [Act.put, List.setIfInBounds_toArray, List.set_cons_zero, List.set_cons_succ])
        refine wpQuiet_step_h hlq ?_
        clear hlq lq
        intro K lq hlq hK
        refine wanted_go (by rfl) ?_
        refine ⟨u, fun W hW => ?_, ?_⟩
        · have d1 := ca1.out _ hW; have d2 := cb1.out _ hW
          exact quiet_load 23 _ rfl rfl (loadVar_slice Tryz.underlying23 (cb2.out _ hW))
        refine hK _ ?_
        clear hK K
        (try simp only [Act.put, List.setIfInBounds_toArray, List.set_cons_zero, List.set_cons_succ])
        refine wpQuiet_step_h hlq ?_
        clear hlq lq
        intro K lq hlq hK
        refine wanted_go (by rfl) ?_
        refine ⟨.bool true, fun W hW => ?_, ?_⟩
        · go_simp
          exact (hct.out _ hW).mono fun e W2 hc2 => ⟨hc2.1, hW.trans (hc2.2.mono hW.size)⟩
        refine hK _ ?_
        clear hK K
        (try simp only [Act.put, List.setIfInBounds_toArray, List.set_cons_zero, List.set_cons_succ])
        refine wpQuiet_step_h hlq ?_
        clear hlq lq
        intro K lq hlq hK
        refine wanted_go (by rfl) ?_
        refine ⟨?_, fun W hW => ?_, ?_⟩
        rotate_left
        · have d1 := ca1.out _ hW; have d2 := cb1.out _ hW
          go_simp
          with_reducible rfl
        refine hK _ ?_
        clear hK K
        (try simp only [Act.put, List.setIfInBounds_toArray, List.set_cons_zero, List.set_cons_succ])
        refine wpQuiet_step_h hlq ?_
        clear hlq lq
        intro K lq hlq hK
        refine wanted_go (by rfl) ?_
        refine ⟨?_, fun W hW => ?_, ?_⟩
        rotate_left
        · have d1 := ca1.out _ hW; have d2 := cb1.out _ hW
          go_simp
          with_reducible rfl
        refine hK _ ?_
        clear hK K
        (try simp only [Act.put, List.setIfInBounds_toArray, List.set_cons_zero, List.set_cons_succ])
        refine wpQuiet_nil_h hlq ?_
        clear hlq lq
        intro w' hC'
        go_wp2
        refine ⟨⟨i + 1, by omega, by congr 1, hC'⟩, by simp [intOf]; omega⟩
      · obtain rfl : i = n := by omega
        go_wp2
        go_ret
        exact ⟨rfl, bel⟩
  · have : l.length = 0 := by omega
    rw [this]
    exact same_nil
end Go.Proofs.YtnljjlaececnkaaGreatDoor
/-
  Number at one text. Condition: the held start.
-/
namespace Go.Proofs.YtnljjlaececnkaaGreatDoor
open Go.RowKit
set_option linter.unusedVariables false
set_option linter.unusedSimpArgs false
theorem bel_bytes (w : World) (t : ByteArray) : Below w.heap.size w (Lib.bytesWorld w 5 t) :=
  ⟨rfl, rfl, rfl, by rw [Lib.bytesWorld_size]; omega, fun k hk => Lib.bytesWorld_at_old w 5 t k hk⟩
set_option maxRecDepth 100000 in
set_option maxHeartbeats 1600000 in
theorem number42 {w : World} (E : Env w) : Calls Tryz.prog 47 #[.string ⟨#[52, 50]⟩, .int .i64 99] w fun e w' => e = .returned (.tuple #[.int .i64 42, .bool true]) ∧ Below w.heap.size w w' := by
  have ha := Tryz.strconv_Atoi ⟨#[52, 50]⟩ 42 (by decide) (by rfl) w
  have hi : (⟨(Lib.itoa 42).toArray⟩ : ByteArray) = ⟨#[52, 50]⟩ := by first | kernel_rfl | decide +kernel
  have hit := fun {W : World} (h : Below w.heap.size w W) => itoa_call (w := W) (n := 42) (E.go h).2 (by decide) (by decide)
  rw [hi] at hit
  go_enter Tryz.func47, Tryz.ntmps47
  go_wp2_with (first | (go_at_call 116; refine ha.mono ?_; clear ha; rintro e w2 ⟨rfl, tt, rfl⟩; have bel : Below w.heap.size w (Lib.bytesWorld w 5 tt) := bel_bytes w tt; generalize Lib.bytesWorld w 5 tt = w2 at bel ⊢) | (go_at_call 117; refine (hit bel).mono ?_; clear hit; rintro e w3 ⟨rfl, bel3⟩))
  go_ret2
  exact ⟨rfl, bel.trans (bel3.mono bel.size)⟩
end Go.Proofs.YtnljjlaececnkaaGreatDoor
/-
  Join. Condition: no more than a hundred words of the program's bound.
-/
namespace Go.Proofs.YtnljjlaececnkaaGreatDoor
open Go.RowKit
set_option linter.unusedVariables false
set_option linter.unusedSimpArgs false
/-- The words, as they are written. -/
def wds (xs : List ByteArray) : List ByteArray := xs.map fun x => ⟨(wordL x.data.toList).toArray⟩
set_option maxRecDepth 100000 in
set_option maxHeartbeats 1600000 in
theorem joins_any {w : World} {k c : Nat} {xs : List ByteArray} (hk : k < w.heap.size) (hn : xs.length ≤ 1000) (hx : ∀ (j : Nat) x, xs[j]? = some x → w.cell? ⟨k, j, none⟩ = some (.string x) ∧ x.size < 4294967281) (hlen : (Lib.join ((wds xs).map (·.data.toList)) [32]).length ≤ 140737488355328) :
    Calls Tryz.prog 45 #[.slice (some ⟨k, 0, none⟩) xs.length c] w fun e w' => e = .returned (.string ⟨(Lib.join ((wds xs).map (·.data.toList)) [32]).toArray⟩) ∧ Below w.heap.size w w' := by
  have Hx := Lib.hid hx
  have Hl := Lib.hid hlen
  clear hx hlen
  go_enter Tryz.func45, Tryz.ntmps45
  go_wp2
  go_loopw [3, 8] (fun x3 x8 wr => ∃ j : Nat, x8 = .int .i64 j ∧ j ≤ xs.length ∧ Hid (wr.ownsRow 0 9 1 x3 j (strs (wds (xs.take j)))) ∧ Lo w.heap.size x3 ∧ Below w.heap.size w wr) (fun x3 x8 wr => xs.length - (intOf x8).toNat)
  case atStart => exact ⟨0, rfl, Nat.zero_le _, Lib.hid (by simpa [strs, wds] using own_nil _ _ _), Lo.nil _, Below.refl _ _⟩
  case round =>
    obtain ⟨j, rfl, hj, ho, lo, bel⟩ := hrel
    by_cases hlt : j < xs.length
    · have hg := List.getElem?_eq_getElem hlt
      obtain ⟨q0, q2⟩ := Hx.out j _ hg
      have q1 : wr.cell? ⟨k, j, none⟩ = some (.string xs[j]) := (Below.cell (p := ⟨k, j, none⟩) bel hk).trans q0
      have ht : Hid (strs (wds (xs.take (j + 1))) = strs (wds (xs.take j)) ++ [.string ⟨(wordL xs[j].data.toList).toArray⟩]) := Lib.hid (by
        rw [take_snoc hg]; unfold strs wds; rw [List.map_append, List.map_append]; rfl)
      have hw := fun W => word_any (w := W) q2
      clear q0
      replace hg := Lib.hid hg
      go_wp2_with (first | (go_at_call 113; refine (hw _).mono ?_; rintro e w1 ⟨rfl, bel1⟩) | (at_builtin; refine wpList_app1 rfl (.tmp 12) (.tmp 15) 23 rfl Tryz.underlying23 Tryz.info9 rfl (by decide) (by decide) [.string ⟨(wordL xs[j].data.toList).toArray⟩] rfl (by intro z hz; simp at hz; subst hz; rfl) rfl (own_below ho.out bel1 (own_lt ho.out)) rfl (by omega) ?_; intro v' w2 ho2 hn2 hf2))
      have bel2 := bel.trans (bel1.mono bel.size)
      refine ⟨⟨j + 1, by congr 1, by omega, Lib.hid (by rw [ht.out]; exact ho2), lo.next hn2 bel2.size, bel2.trans (hf2.belowB lo bel2.size)⟩, by simp [intOf]; omega⟩
    · obtain rfl : j = xs.length := by omega
      have ho2 := ho.out
      rw [List.take_length] at ho2
      have hjc := join_call (xs := wds xs) (sep := ⟨#[32]⟩) (by simp [wds]) ho2 (by simp [wds]; omega) Hl.out
      go_wp2_with (go_at_call 114; refine hjc.mono ?_; rintro e w1 ⟨rfl, bel1⟩)
      go_ret
      exact ⟨rfl, bel.trans (bel1.mono bel.size)⟩
end Go.Proofs.YtnljjlaececnkaaGreatDoor
/-
  The stage's first line: words, a quotation that does not end, a number, a line. Condition: the held start.
-/
namespace Go.Proofs.YtnljjlaececnkaaGreatDoor
open Go.RowKit
set_option linter.unusedVariables false
set_option linter.unusedSimpArgs false
theorem lit_cells (W : World) (xs : List ByteArray) (j : Nat) (x : ByteArray) (hx : xs[j]? = some x) : (W.alloc (.cells (strs xs).toArray 9)).cell? ⟨W.heap.size, j, none⟩ = some (.string x) :=
  (row_cell (box1 W _)).trans (by rw [List.getElem?_toArray]; unfold strs; rw [List.getElem?_map, hx]; rfl)
def liveJ : List ByteArray := [⟨#[]⟩, ⟨#[97, 32, 98]⟩, ⟨#[99]⟩]
def liveW : List ByteArray := [⟨#[97]⟩, ⟨#[98, 32, 99]⟩, ⟨#[100, 35, 101]⟩]
theorem liveJ_is : Lib.join ((wds liveJ).map (·.data.toList)) [32] = [34, 34, 32, 34, 97, 32, 98, 34, 32, 99] := by decide +kernel
theorem liveJ_size : ∀ x ∈ liveJ, x.size < 4294967281 := by intro x hx; simp [liveJ] at hx; rcases hx with rfl | rfl | rfl <;> decide
theorem lit_join (W : World) : Calls Tryz.prog 45 #[.slice (some ⟨W.heap.size, 0, none⟩) 3 3] (W.alloc (.cells #[.string ⟨#[]⟩, .string ⟨#[97, 32, 98]⟩, .string ⟨#[99]⟩] 9)) fun e w' => e = .returned (.string ⟨#[34, 34, 32, 34, 97, 32, 98, 34, 32, 99]⟩) ∧ Below (W.alloc (.cells #[.string ⟨#[]⟩, .string ⟨#[97, 32, 98]⟩, .string ⟨#[99]⟩] 9)).heap.size (W.alloc (.cells #[.string ⟨#[]⟩, .string ⟨#[97, 32, 98]⟩, .string ⟨#[99]⟩] 9)) w' := by
  have h := joins_any (w := W.alloc (.cells (strs liveJ).toArray 9)) (k := W.heap.size) (c := 3) (xs := liveJ) (by simp) (by decide) (fun j x hx => ⟨lit_cells W liveJ j x hx, liveJ_size x (List.mem_of_getElem? hx)⟩) (by rw [liveJ_is]; decide)
  rw [liveJ_is] at h
  exact h
theorem lit_texts {W : World} {A : Option Addr} {c : Nat} (h : W.ownsRow 0 9 1 (.slice A 3 c) 3 (strs liveW)) : Calls Tryz.prog 22 #[.slice A 3 c, .slice (some ⟨W.heap.size, 0, none⟩) 3 3] (W.alloc (.cells #[.string ⟨#[97]⟩, .string ⟨#[98, 32, 99]⟩, .string ⟨#[100, 35, 101]⟩] 9)) fun e w' => e = .returned (.bool true) ∧ Below (W.alloc (.cells #[.string ⟨#[97]⟩, .string ⟨#[98, 32, 99]⟩, .string ⟨#[100, 35, 101]⟩] 9)).heap.size (W.alloc (.cells #[.string ⟨#[97]⟩, .string ⟨#[98, 32, 99]⟩, .string ⟨#[100, 35, 101]⟩] 9)) w' :=
  texts_own (xs := liveW) (by decide) (own_below h ((Below.refl _ _).alloc (Nat.le_refl _) _) (own_lt h)) (own_lit W 9 1 3 (strs liveW) rfl (by decide)) rfl rfl
set_option maxRecDepth 100000 in
set_option maxHeartbeats 3200000 in
theorem live08_any {w : World} (E : Env w) : Calls Tryz.prog 20 #[] w fun e w' => e = .returned (.bool true) ∧ Below w.heap.size w w' := by
  have c1 : ∀ W, Calls Tryz.prog 21 #[.string ⟨#[97, 32, 34, 98, 32, 99, 34, 32, 100, 35, 101, 32, 35, 102]⟩] W fun e' w' => ∃ v, e' = .returned (.tuple #[v, .int .i64 0]) ∧ w'.ownsRow 0 9 1 v 3 (strs liveW) ∧ Lo W.heap.size v ∧ Below W.heap.size W w' := fun W => words_any (by decide) wr_live
  have c2 : ∀ W, Calls Tryz.prog 21 #[.string ⟨#[34, 97]⟩] W fun e' w' => ∃ v, e' = .returned (.tuple #[v, .int .i64 80]) ∧ w'.ownsRow 0 9 1 v 0 [] ∧ Lo W.heap.size v ∧ Below W.heap.size W w' := fun W => words_any (by decide) wr_live2
  have c3 : ∀ W, Below w.heap.size w W → _ := fun W h => number42 (w := W) (E.go h).2
  replace c3 := Lib.hid c3
  go_enter Tryz.func20, Tryz.ntmps20
  go_wp2_with (first
    | (go_at_call 21; with_reducible refine (c1 _).mono ?_; rintro e w1 ⟨v, rfl, ho1, -, bel1⟩; obtain ⟨A, c, hv, -, -⟩ := own_slice ho1; subst hv; have ho1 := Lib.hid ho1)
    | (go_at_call 21; with_reducible refine (c2 _).mono ?_; rintro e w2 ⟨v, rfl, ho2, -, bel2⟩; obtain ⟨A2, c2', hv, -, -⟩ := own_slice ho2; subst hv; clear ho2; have bel12 := bel1.trans (bel2.mono bel1.size); have ho3 := Lib.hid (own_below ho1.out bel2 (own_lt ho1.out)))
    | (go_at_call 47; refine (c3.out _ bel12).mono ?_; rintro e w3 ⟨rfl, bel3⟩; have bel13 := bel12.trans (bel3.mono bel12.size); have ho4 := Lib.hid (own_below ho3.out bel3 (own_lt ho3.out)))
    | (go_at_call 23; refine errnum_any.mono ?_; rintro e w4 ⟨rfl, rfl⟩)
    | (go_at_call 22; go_loud (refine (lit_texts ho4.out).mono ?_; rintro e w5 ⟨rfl, bel5⟩; have bel15 := (bel13.alloc bel13.size _).trans (bel5.mono (Nat.le_trans bel13.size (by simp)))))
    | (go_at_call 45; go_loud (refine (lit_join _).mono ?_; rintro e w6 ⟨rfl, bel6⟩; have bel16 := (bel15.alloc bel15.size _).trans (bel6.mono (Nat.le_trans bel15.size (by simp))))))
  go_ret
  exact ⟨rfl, bel16⟩
end Go.Proofs.YtnljjlaececnkaaGreatDoor
