/-
  Addresses and prefixes: the words; masked. Condition: an address is sixteen bytes.
-/
import Derived.Test.YtnljjlaececnkaaGreatDoorA
import Derived.Deep.MidRow
import Derived.Deep.WholeRow
namespace Go.Proofs.YtnljjlaececnkaaGreatDoor
open Go.RowKit
set_option linter.unusedVariables false
set_option linter.unusedSimpArgs false

/-- An address's cells; its value. -/
def vA (a : List Int) : Value := .agg (nums .u8 a).toArray
def isA (a : List Int) : Prop := a.length = 16 ∧ ∀ x ∈ a, 0 ≤ x ∧ x < 256
/-- A prefix's value. -/
def vP (a : List Int) (n : Int) : Value := .agg (nums .u8 a ++ [Value.int .i64 n]).toArray
/-- How many bits of byte i are kept of n. -/
def keepOf (n : Int) (i : Nat) : Nat := (min (max (n - 8 * i) 0) 8).toNat
def mskB (x : Int) (k : Nat) : Int := x - x % 2 ^ (8 - k)
def msk (a : List Int) (n : Int) : List Int := a.zipIdx.map fun p => mskB p.1 (keepOf n p.2)
theorem Tryz.info5 : (Tryz.prog.info? 5).map (fun i => (i.zero, i.size, i.bytes)) = some (some (.int .u8 0), 1, 1) := by kernel_rfl
theorem size42 : (Tryz.prog.info? 42).map (·.size) = some 16 := by kernel_rfl

theorem msk_len (a : List Int) (n : Int) : (msk a n).length = a.length := by simp [msk]
theorem msk_get {a : List Int} {n : Int} {j : Nat} {x : Int} (h : a[j]? = some x) : (msk a n)[j]? = some (mskB x (keepOf n j)) := by simp [msk, h]
theorem nums_get {k : IntKind} {l : List Int} {j : Nat} {y : Int} (h : l[j]? = some y) : (nums k l)[j]? = some (.int k y) := by simp [nums, h]
theorem take_snoc {α : Type} {l : List α} {j : Nat} {y : α} (h : l[j]? = some y) : l.take (j + 1) = l.take j ++ [y] := by
  obtain ⟨hj, rfl⟩ := List.getElem?_eq_some_iff.1 h
  exact List.take_succ_eq_append_getElem hj
theorem get_some {α : Type} {l : List α} {j : Nat} (h : j < l.length) : ∃ y, l[j]? = some y := ⟨_, List.getElem?_eq_getElem h⟩
theorem nums_set (k : IntKind) (l : List Int) (i : Nat) (y : Int) : (nums k l).set i (.int k y) = nums k (l.set i y) := by simp [nums, List.map_set]
/-- The first j bytes masked. -/
def mskT (a : List Int) (n : Int) (j : Nat) : List Int := (msk a n).take j ++ a.drop j
theorem mskT_step {a : List Int} {n : Int} {j : Nat} {x : Int} (h : a[j]? = some x) : (mskT a n j)[j]? = some x ∧ (mskT a n j).set j (mskB x (keepOf n j)) = mskT a n (j + 1) := by
  obtain ⟨hj, rfl⟩ := List.getElem?_eq_some_iff.1 h
  have hl : ((msk a n).take j).length = j := by simp [msk_len]; omega
  unfold mskT
  refine ⟨?_, ?_⟩
  · rw [List.getElem?_append_right (by omega), hl, Nat.sub_self, List.getElem?_drop]; simp
  · rw [List.set_append_right _ _ (by omega), hl, Nat.sub_self, List.drop_eq_getElem_cons hj, List.set_cons_zero, take_snoc (msk_get h), List.append_assoc]; rfl
theorem mask_bits : ∀ x : Fin 256, ∀ k : Fin 9, bits .and .u8 (x.val : Int) (IntKind.u8.wrap ((65280 : Int) / 2 ^ k.val)) = mskB x.val k.val := by decide +kernel
theorem mask_eq {x : Int} {k : Nat} (h0 : 0 ≤ x) (h1 : x < 256) (hk : k ≤ 8) : bits .and .u8 x (IntKind.u8.wrap ((65280 : Int) / 2 ^ k)) = mskB x k := by
  have := mask_bits ⟨x.toNat, by omega⟩ ⟨k, by omega⟩
  simpa [Int.toNat_of_nonneg h0] using this
theorem below_row {B g : Nat} {w0 w : World} (hb : Below B w0 w) (hBg : B ≤ g) (cs : Array Value) : Below B w0 (w.setRow g cs) :=
  ⟨hb.os, hb.tape, hb.output, by rw [size_setRow]; exact hb.size, fun k hk => by rw [setRow_other _ _ _ _ (by omega)]; exact hb.block k hk⟩
theorem heap_two (w : World) (o1 o2 : Obj) : ((w.alloc o1).alloc o2).heap[w.heap.size + 1]? = some o2 := by
  have := heap_alloc_new (w.alloc o1) o2
  rwa [show (w.alloc o1).heap.size = w.heap.size + 1 from by simp] at this
set_option maxRecDepth 100000 in
set_option maxHeartbeats 800000 in
theorem masked_any {w : World} {a : List Int} (ha : isA a) (n : Int) (h0 : 0 ≤ n) (h1 : n ≤ 128) :
    Calls Tryz.prog 111 #[vA a, .int .i64 n] w fun e w' => e = .returned (vA (msk a n)) ∧ Below w.heap.size w w' := by
  obtain ⟨hl, hb⟩ := ha
  replace hb := Lib.hid hb
  unfold vA
  go_enter Tryz.func111, Tryz.ntmps111
  go_wp2
  go_loopw [7] (fun x wr => ∃ j : Nat, x = .int .i64 j ∧ j ≤ 16 ∧ wr.heap[w.heap.size]? = some (.cells (nums .u8 (mskT a n j)).toArray 42 (0, 0)) ∧ (∃ z, z.size = 16 ∧ wr.heap[w.heap.size + 1]? = some (.cells z 42 (0, 0))) ∧ Below w.heap.size w wr) (fun x wr => 16 - (intOf x).toNat)
  case atStart =>
    refine ⟨0, rfl, by omega, ?_, ⟨_, ?_, heap_two w _ _⟩, ((Below.refl _ _).alloc (Nat.le_refl _) _).alloc (by simp) _⟩
    · rw [Below.heap_alloc _ _ _ (by simp)]; exact heap_alloc_new w _
    · rfl
  case round =>
    obtain ⟨j, rfl, hj, hr, ⟨z, hz, hr2⟩, bel⟩ := hrel
    by_cases hlt : j < 16
    · obtain ⟨x, hx⟩ := get_some (l := a) (j := j) (by omega)
      obtain ⟨x0, x1⟩ := hb.out x (List.mem_of_getElem? hx)
      obtain ⟨m1, m2⟩ := mskT_step (n := n) hx
      obtain ⟨d, hd⟩ : ∃ d : Int, n - 8 * (j : Int) = d := ⟨_, rfl⟩
      obtain ⟨e, he⟩ : ∃ e : Int, (if d < 0 then 0 else d) = e := ⟨_, rfl⟩
      obtain ⟨k, hk, hk8⟩ : ∃ k : Nat, (if 8 < e then 8 else e) = (k : Int) ∧ k ≤ 8 := ⟨(if 8 < e then 8 else e).toNat, by omega, by omega⟩
      have hkk : keepOf n j = k := by unfold keepOf; omega
      have hmb := mask_eq x0 x1 hk8
      rw [hkk] at m2
      have hd0 : -1000 ≤ d ∧ d ≤ 1000 := by omega
      replace m2 := Lib.hid m2
      replace m1 := Lib.hid m1
      replace hkk := Lib.hid hkk
      replace hmb := Lib.hid hmb
      replace hl := Lib.hid hl
      replace hx := Lib.hid hx
      replace hr := Lib.hid hr
      replace hr2 := Lib.hid hr2
      go_wp2_with fail
      refine wp_region_tail 8 (by kernel_rfl) (by kernel_rfl) ?_
      intro w2 hw2
      have row2 : w2.heap[w.heap.size]? = some (.cells (nums .u8 (mskT a n j)).toArray 42 (0, 0)) := by rw [hw2]; exact hr.out
      have row3 : w2.heap[w.heap.size + 1]? = some (.cells z 42 (0, 0)) := by rw [hw2]; exact hr2.out
      have bel2 : Below w.heap.size w w2 := by rw [hw2]; exact ⟨bel.os, bel.tape, bel.output, bel.size, bel.block⟩
      clear hw2 bel hr hr2
      have c1 : w2.cell? ⟨w.heap.size, j, none⟩ = some (.int .u8 x) := (row_cell row2).trans (by rw [List.getElem?_toArray]; exact nums_get m1.out)
      have f1 : w2.frozen? ⟨w.heap.size, j, none⟩ = false := row_free row2
      have row4 := Lib.hid (row_set row2 (i := j) (cs' := (nums .u8 (mskT a n (j + 1))).toArray) (.int .u8 (mskB x k)) (by rw [List.setIfInBounds_toArray, nums_set, m2.out]))
      have g1 : Fr (fun b => b = w.heap.size) w2 (w2.setCell ⟨w.heap.size, j, none⟩ (.int .u8 (mskB x k))) := Fr.setCell (S := fun b => b = w.heap.size) (Fr.refl _ w2) (p := ⟨w.heap.size, j, none⟩) (.inl rfl) _
      have row5 := Lib.hid (g1.obj row3 (by omega))
      have bel3 := bel2.trans (g1.belowS (fun b hb => Nat.le_of_eq hb.symm) bel2.size)
      replace row2 := Lib.hid row2
      replace row3 := Lib.hid row3
      simp only [List.take_succ_cons, List.take_zero, List.drop_succ_cons, List.drop_zero]
      repeat still_step
      refine wpStill_nil ?_
      rw [hmb.out]
      go_wp2_with fail
      go_roundw
      case rel => exact ⟨j + 1, by go_num, by omega, row4.out, ⟨z, hz, row5.out⟩, bel3⟩
      case measure => simp [intOf]; omega
    · obtain rfl : j = 16 := by omega
      have e1 : mskT a n 16 = msk a n := by
        unfold mskT
        rw [List.take_of_length_le (by rw [msk_len]; omega), List.drop_of_length_le (by omega), List.append_nil]
      rw [e1] at hr
      clear e1
      have hnl : (nums .u8 (msk a n)).toArray.size = 16 := by simp [nums, msk_len, hl]
      have hsz : (Tryz.prog.info? 42).map (·.size) = some (nums .u8 (msk a n)).toArray.size := by rw [hnl]; exact size42
      have hfin := setRow_heap wr (w.heap.size + 1) z (nums .u8 (msk a n)).toArray 42 (0, 0) hr2
      have bel2 := below_row bel (show w.heap.size ≤ w.heap.size + 1 by omega) (nums .u8 (msk a n)).toArray
      replace hsz := Lib.hid hsz
      replace hfin := Lib.hid hfin
      replace hnl := Lib.hid hnl
      replace hr := Lib.hid hr
      replace hr2 := Lib.hid hr2
      replace hl := Lib.hid hl
      go_wp2_with (first
        | (refine wpList_load_row rfl 42 (.tmp 2) rfl w.heap.size rfl 42 (nums .u8 (msk a n)).toArray (0, 0) _ hr.out Tryz.underlying42 rfl hsz.out ?_)
        | (refine wpList_store_row rfl 42 (.tmp 4) (.tmp 25) rfl (w.heap.size + 1) (nums .u8 (msk a n)).toArray rfl rfl 42 z hr2.out hsz.out (by rw [hz, hnl.out]) (all_oneCell_toArray (nums_one _ _)) ?_))
      refine bodyPost_ret (v := vA (msk a n)) ?_ rfl ⟨rfl, bel2⟩
      exact results_cell_row rfl _ _ (w.heap.size + 1) 42 _ (0, 0) _ rfl hfin.out Tryz.underlying42 rfl hsz.out
end Go.Proofs.YtnljjlaececnkaaGreatDoor
