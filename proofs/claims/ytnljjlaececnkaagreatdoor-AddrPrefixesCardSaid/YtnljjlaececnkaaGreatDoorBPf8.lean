/-
  Merged texts (HF, HG, KAddrPrefixes, EN, JF, JG), part 8 of 8. Conditions: each part's own, told at its head.
-/
import Derived.Test.YtnljjlaececnkaaGreatDoorBPf1
import Derived.Test.YtnljjlaececnkaaGreatDoorBPf2
import Derived.Test.YtnljjlaececnkaaGreatDoorBPf3
import Derived.Test.YtnljjlaececnkaaGreatDoorBPf4
import Derived.Test.YtnljjlaececnkaaGreatDoorBPf5
import Derived.Test.YtnljjlaececnkaaGreatDoorBPf6
import Derived.Test.YtnljjlaececnkaaGreatDoorBPf7
import Derived.Test.YtnljjlaececnkaaGreatDoorRows
import Derived.Lib.LaidTab
import Derived.Stop.LaidErr
import Derived.Shelf.Vars
import Derived.MakeChecks
import Derived.JoinedOf
import Derived.KernelRfl
import Derived.SevenTiedAt
/-
  The document's ParsePrefix. Condition: a text is no longer than the program's bound.
-/
namespace Go.Proofs.YtnljjlaececnkaaGreatDoor
open Go.RowKit
set_option linter.unusedVariables false
set_option linter.unusedSimpArgs false
theorem cutL_mem2 {c : UInt8} : ∀ {l x : List UInt8}, x ∈ cutL c l → x.length ≤ l.length
  | [], x, h => by simp [cutL] at h; subst h; exact Nat.le_refl _
  | y :: r, x, h => by
    unfold cutL at h
    split at h
    · rcases List.mem_cons.1 h with rfl | h
      · exact Nat.zero_le _
      · exact Nat.le_trans (cutL_mem2 h) (Nat.le_succ _)
    · cases hr : cutL c r with
      | nil => exact absurd hr (cutL_ne c r)
      | cons a t =>
        rw [hr] at h
        rcases List.mem_cons.1 h with rfl | h
        · have := cutL_mem2 (l := r) (x := a) (by rw [hr]; exact List.mem_cons_self ..)
          simp; omega
        · exact Nat.le_trans (cutL_mem2 (l := r) (by rw [hr]; exact List.mem_cons_of_mem _ h)) (Nat.le_succ _)
theorem piece_size2 {c : UInt8} {s x : ByteArray} (h : x ∈ cutB c s) : x.size ≤ s.size := by
  unfold cutB at h
  obtain ⟨l, hl, rfl⟩ := List.mem_map.1 h
  have := cutL_mem2 hl
  rw [len_data] at this
  exact this
theorem decS_bad {R : ByteArray} {k : Nat} (h : R.data.toList[k]? = some 47) : decS R 3 = none := by
  rw [decS_F (by decide)]
  unfold decF
  split
  · rfl
  · rw [decFrom_stop h (by decide)]; rfl
theorem slash_cases (s : ByteArray) : (∃ L R : ByteArray, cutB 47 s = [L, R] ∧ Lib.cut s.data.toList slashB.data.toList = (L.data.toList, R.data.toList, true)) ∨ ((cutB 47 s).length ≠ 2 ∧ parsePS s = (zeroP, 20)) := by
  have hsl : slashB.data.toList = [47] := rfl
  have hlen : (cutB 47 s).length = (cutL 47 s.data.toList).length := by unfold cutB; rw [List.length_map]
  have hge := Lib.indexByte_ge s.data.toList 47
  by_cases h : Lib.indexByte s.data.toList 47 = -1
  · have hm := index_miss h
    refine .inr ⟨by rw [hlen, cutL_miss hm]; simp, ?_⟩
    refine raw_none (l := s.data.toList) (r := []) (g := false) ?_ (by rw [decS_F (by decide)]; rfl)
    unfold Lib.cut
    rw [hsl, Lib.index_one, h, if_neg (by omega)]
  · obtain ⟨i, hi⟩ : ∃ i : Nat, Lib.indexByte s.data.toList 47 = i := ⟨(Lib.indexByte s.data.toList 47).toNat, by omega⟩
    obtain ⟨hil, hsp, hno⟩ := index_split hi
    generalize hp : s.data.toList.take i = p at *
    generalize hr : s.data.toList.drop (i + 1) = r at *
    have hcut : Lib.cut s.data.toList slashB.data.toList = (p, r, true) := by rw [hsl, hsp]; exact cut_byte hno r
    have hcl : cutL 47 s.data.toList = p :: cutL 47 r := by rw [hsp]; exact cutL_at hno r
    have hgr := Lib.indexByte_ge r 47
    by_cases h2 : Lib.indexByte r 47 = -1
    · have hm := index_miss h2
      rw [cutL_miss hm] at hcl
      exact .inl ⟨⟨p.toArray⟩, ⟨r.toArray⟩, by unfold cutB; rw [hcl]; rfl, hcut⟩
    · obtain ⟨j, hj⟩ : ∃ j : Nat, Lib.indexByte r 47 = j := ⟨(Lib.indexByte r 47).toNat, by omega⟩
      obtain ⟨hjl, hsr, hnr⟩ := index_split hj
      have hk : r[j]? = some 47 := by
        rw [hsr, List.getElem?_append_right (by rw [List.length_take]; omega), List.length_take, Nat.min_eq_left (by omega), Nat.sub_self]; rfl
      refine .inr ⟨?_, raw_none hcut (decS_bad (R := ⟨r.toArray⟩) hk)⟩
      rw [hlen, hcl, hsr, cutL_at hnr]
      have := cutL_ne 47 (r.drop (j + 1))
      simp only [List.length_cons]
      have := List.length_pos_iff.2 this
      omega
def PPV (s : ByteArray) : Value := .tuple #[vPf (parsePS s).1, .int .i64 (parsePS s).2]
set_option maxRecDepth 100000 in
set_option maxHeartbeats 1600000 in
theorem rpp_not {w : World} {s : ByteArray} (hs : s.size < 4294967281) (h2 : (cutB 47 s).length ≠ 2) (hres : parsePS s = (zeroP, 20)) : Calls Tryz.prog 61 #[.string s] w fun e w' => e = .returned (PPV s) ∧ Below w.heap.size w w' := by
  have hv : PPV s = .tuple #[vPf zeroP, .int .i64 20] := by unfold PPV; rw [hres]
  rw [hv]
  obtain ⟨n, hn⟩ : ∃ n, (cutB 47 s).length = n := ⟨_, rfl⟩
  have bel0 : Below w.heap.size w (w.alloc (oP zeroP)) := (Below.refl _ _).alloc (Nat.le_refl _) _
  have hz0 := Lib.hid (box1 w (oP zeroP))
  have hcut : ∀ W : World, Calls Tryz.prog 100 #[.string s, .int .u8 47] W fun e w' => (∃ v, e = .returned v ∧ w'.ownsRow 0 9 1 v n (strs (cutB 47 s)) ∧ Lo W.heap.size v) ∧ Below W.heap.size W w' := fun W => by rw [← hn]; exact cut100_any hs 47
  have hb2 : ((n : Int) != 2) = true := by rw [hn] at h2; simp; omega
  clear h2 hres hv hn
  go_enter Tryz.func61, Tryz.ntmps61
  go_wp2_with (first
    | (go_at_call 100; refine (hcut _).mono ?_; clear hcut; rintro e w1 ⟨⟨v, rfl, hrow, low⟩, bel1⟩; obtain ⟨A, c2, rfl, hc1, hc2⟩ := own_slice hrow; have bel01 := bel0.trans (bel1.mono bel0.size); have hy0 := Lib.hid (Below.box hz0.out bel1 (lt_of_obj hz0.out)); clear hrow low)
    | (refine wpList_store_row rfl 55 (.tmp 2) (.tmp 17) rfl w.heap.size (pCs zeroA 0).toArray rfl rfl 55 (pCs zeroA 0).toArray hy0.out (info55 zeroA_ok _) rfl (pCs_one _ _) ?_))
  refine bodyPost_ret (v := .tuple #[vPf zeroP, .int .i64 20]) ?_ rfl ⟨rfl, below_row bel01 (Nat.le_refl _) _⟩
  exact results_cell_tmp rfl _ _ rfl (BoxP.run (p := zeroP) (setRow_heap _ _ _ _ _ _ hy0.out) zeroA_ok).2.2 rfl
--MARK
theorem fr_row (W : World) (g : Nat) (cs : Array Value) : Fr (fun b => b = g) W (W.setRow g cs) :=
  ⟨rfl, rfl, rfl, by simp [World.setRow], fun b hb hn => setRow_other W _ _ _ hn⟩
set_option maxRecDepth 100000 in
set_option maxHeartbeats 1600000 in
theorem rpp_q_nodec {w : World} {s L R : ByteArray} (hs : s.size < 4294967281) (hc2 : cutB 47 s = [L, R]) {q : List Int} (hq4 : quadS L = some q) (hdn : decF R.data.toList 3 = none) : Calls Tryz.prog 61 #[.string s] w fun e w' => e = .returned (.tuple #[vPf zeroP, .int .i64 20]) ∧ Below w.heap.size w w' := by
  have bel0 : Below w.heap.size w (w.alloc (oP zeroP)) := (Below.refl _ _).alloc (Nat.le_refl _) _
  have hz0 := Lib.hid (box1 w (oP zeroP))
  have hcut : ∀ W : World, Calls Tryz.prog 100 #[.string s, .int .u8 47] W fun e w' => (∃ v, e = .returned v ∧ w'.ownsRow 0 9 1 v 2 (strs [L, R]) ∧ Lo W.heap.size v) ∧ Below W.heap.size W w' := fun W => by
    have := cut100_any (w := W) hs 47
    rw [hc2] at this; exact this
  have hLs : L.size ≤ s.size := piece_size2 (c := 47) (by rw [hc2]; exact List.mem_cons_self ..)
  have h4 : ∀ W, Calls Tryz.prog 103 #[.string L] W fun e w' => e = .returned (.tuple #[.agg (nums .u8 q).toArray, .bool true]) ∧ Below W.heap.size W w' := fun W => by
    have := four_any (w := W) (s := L) (by omega)
    unfold QuadR at this; rw [hq4] at this; exact this
  have hq := Lib.hid (quadS_ok hq4)
  have hd := fun W => dec118_any (w := W) R (most := 3) (by decide)
  rw [DecF_no hdn] at hd
  clear hc2 hLs hs hq4 hdn
  go_enter Tryz.func61, Tryz.ntmps61
  go_wp2_with (first | (go_at_call 100; refine (hcut _).mono ?_; clear hcut; rintro e w1 ⟨⟨v, rfl, hrow, low⟩, bel1⟩; obtain ⟨A, c2, rfl, hc1, hc2'⟩ := own_slice hrow; obtain ⟨k, rfl, -, hkl, hcell, -, -⟩ := own_at hrow (by decide); have bel01 := bel0.trans (bel1.mono bel0.size); have hz1 := Lib.hid (Below.box hz0.out bel1 (lt_of_obj hz0.out)); have l0 : w1.cell? ⟨k, 0, none⟩ = some (.string L) := hcell 0 _ rfl; have l1 : w1.cell? ⟨k, 1, none⟩ = some (.string R) := hcell 1 _ rfl; clear hrow low hcell) | (go_at_call 103; refine (h4 _).mono ?_; clear h4; rintro e w2 ⟨rfl, bel2⟩; have m0 := (Below.cell (p := ⟨k, 0, none⟩) bel2 hkl).trans l0; have m1 := (Below.cell (p := ⟨k, 1, none⟩) bel2 hkl).trans l1; have hz2 := Lib.hid (Below.box hz1.out bel2 (lt_of_obj hz1.out)); have bel02 := bel01.trans (bel2.mono bel01.size); have bA : Below w2.heap.size w2 (w2.alloc (oA q)) := (Below.refl _ _).alloc (Nat.le_refl _) _; have hkl2 := Nat.lt_of_lt_of_le hkl bel2.size; have n0 := (Below.cell (p := ⟨k, 0, none⟩) bA hkl2).trans m0; have n1 := (Below.cell (p := ⟨k, 1, none⟩) bA hkl2).trans m1; have hz3 := Lib.hid (Below.box hz2.out bA (lt_of_obj hz2.out)); have hq3 := Lib.hid (box1 w2 (oA q)); have bel03 := bel02.trans (bA.mono bel02.size); unfold oA at n0 n1; clear l0 l1 m0 m1) | (refine wpList_store_new rfl 42 (.tmp 5) (.tmp 23) rfl rfl rfl (info42 hq.out) (by rw [sizeA hq.out]; rfl) (numsA_one _) ?_) | (go_at_call 118; refine (hd _).mono ?_; clear hd; rintro e w6 ⟨rfl, hw⟩; replace hw := hw.symm; subst hw) | (refine wpList_store_row rfl 55 (.tmp 2) (.tmp 47) rfl w.heap.size (pCs zeroA 0).toArray rfl rfl 55 (pCs zeroA 0).toArray hz3.out (info55 zeroA_ok _) rfl (pCs_one _ _) ?_))
  refine bodyPost_ret (v := .tuple #[vPf zeroP, .int .i64 20]) ?_ rfl ⟨rfl, below_row bel03 (Nat.le_refl _) _⟩
  exact results_cell_tmp rfl _ _ rfl (BoxP.run (p := zeroP) (setRow_heap _ _ _ _ _ _ hz3.out) zeroA_ok).2.2 rfl
set_option maxRecDepth 100000 in
set_option maxHeartbeats 1600000 in
theorem rpp_q_long {w : World} {s L R : ByteArray} (hs : s.size < 4294967281) (hc2 : cutB 47 s = [L, R]) {q : List Int} (hq4 : quadS L = some q) {n : Int} (hdn : decF R.data.toList 3 = some n) (hn0 : 0 ≤ n) (hn1 : n ≤ 1000) (hlo : 32 < n) : Calls Tryz.prog 61 #[.string s] w fun e w' => e = .returned (.tuple #[vPf zeroP, .int .i64 21]) ∧ Below w.heap.size w w' := by
  have bel0 : Below w.heap.size w (w.alloc (oP zeroP)) := (Below.refl _ _).alloc (Nat.le_refl _) _
  have hz0 := Lib.hid (box1 w (oP zeroP))
  have hcut : ∀ W : World, Calls Tryz.prog 100 #[.string s, .int .u8 47] W fun e w' => (∃ v, e = .returned v ∧ w'.ownsRow 0 9 1 v 2 (strs [L, R]) ∧ Lo W.heap.size v) ∧ Below W.heap.size W w' := fun W => by
    have := cut100_any (w := W) hs 47
    rw [hc2] at this; exact this
  have hLs : L.size ≤ s.size := piece_size2 (c := 47) (by rw [hc2]; exact List.mem_cons_self ..)
  have h4 : ∀ W, Calls Tryz.prog 103 #[.string L] W fun e w' => e = .returned (.tuple #[.agg (nums .u8 q).toArray, .bool true]) ∧ Below W.heap.size W w' := fun W => by
    have := four_any (w := W) (s := L) (by omega)
    unfold QuadR at this; rw [hq4] at this; exact this
  have hq := Lib.hid (quadS_ok hq4)
  have hd := fun W => dec118_any (w := W) R (most := 3) (by decide)
  rw [DecF_yes hdn] at hd
  have dm : decide (32 < n) = true := decide_eq_true (by omega)
  have hw : IntKind.i64.wrap (96 + n) = 96 + n := IntWalk.i64_in _ (by omega)
  clear hc2 hLs hs hq4 hdn
  go_enter Tryz.func61, Tryz.ntmps61
  go_upto_region 12 with (first | (go_at_call 100; refine (hcut _).mono ?_; clear hcut; rintro e w1 ⟨⟨v, rfl, hrow, low⟩, bel1⟩; obtain ⟨A, c2, rfl, hc1, hc2'⟩ := own_slice hrow; obtain ⟨k, rfl, -, hkl, hcell, -, -⟩ := own_at hrow (by decide); have bel01 := bel0.trans (bel1.mono bel0.size); have hz1 := Lib.hid (Below.box hz0.out bel1 (lt_of_obj hz0.out)); have l0 : w1.cell? ⟨k, 0, none⟩ = some (.string L) := hcell 0 _ rfl; have l1 : w1.cell? ⟨k, 1, none⟩ = some (.string R) := hcell 1 _ rfl; clear hrow low hcell) | (go_at_call 103; refine (h4 _).mono ?_; clear h4; rintro e w2 ⟨rfl, bel2⟩; have m0 := (Below.cell (p := ⟨k, 0, none⟩) bel2 hkl).trans l0; have m1 := (Below.cell (p := ⟨k, 1, none⟩) bel2 hkl).trans l1; have hz2 := Lib.hid (Below.box hz1.out bel2 (lt_of_obj hz1.out)); have bel02 := bel01.trans (bel2.mono bel01.size); have bA : Below w2.heap.size w2 (w2.alloc (oA q)) := (Below.refl _ _).alloc (Nat.le_refl _) _; have hkl2 := Nat.lt_of_lt_of_le hkl bel2.size; have n0 := (Below.cell (p := ⟨k, 0, none⟩) bA hkl2).trans m0; have n1 := (Below.cell (p := ⟨k, 1, none⟩) bA hkl2).trans m1; have hz3 := Lib.hid (Below.box hz2.out bA (lt_of_obj hz2.out)); have hq3 := Lib.hid (box1 w2 (oA q)); have bel03 := bel02.trans (bA.mono bel02.size); unfold oA at n0 n1; clear l0 l1 m0 m1) | (refine wpList_store_new rfl 42 (.tmp 5) (.tmp 23) rfl rfl rfl (info42 hq.out) (by rw [sizeA hq.out]; rfl) (numsA_one _) ?_) | (go_at_call 118; refine (hd _).mono ?_; clear hd; rintro e w6 ⟨rfl, hw⟩; replace hw := hw.symm; subst hw))
  have hbx : Bx w w.heap.size [(w.heap.size, oP zeroP), (w2.heap.size, oA q)] (w2.alloc (oA q)) := ⟨bel03, ⟨hz3.out, hq3.out, trivial⟩, bel03.size⟩
  go_wp2_with (refine wpList_quiet_take (C := Bx w w.heap.size [(w.heap.size, oP zeroP), (w2.heap.size, oA q)]) 7 5 (by rfl) (hbx) ?_)
  (try simp only [List.take_succ_cons, List.take_zero, List.drop_succ_cons, List.drop_zero])
  refine wpQuiet_hide ?_
  intro lq hlq
  refine wpQuiet_step_h hlq ?_
  clear hlq lq
  intro K lq hlq hK
  refine wanted_go (by rfl) ?_
  refine ⟨vA q, fun W hW => ?_, ?_⟩
  · have qx := BoxA.run hW.2.1.2.1 hq.out
    exact quiet_load 42 _ rfl rfl qx
  refine hK _ ?_
  clear hK K
  (try simp only [Act.put, List.setIfInBounds_toArray, List.set_cons_zero, List.set_cons_succ])
  refine wpQuiet_step_h hlq ?_
  clear hlq lq
  intro K lq hlq hK
  refine wanted_go (by rfl) ?_
  refine ⟨?_, fun W hW => ?_, ?_⟩
  rotate_left
  · have qx := BoxA.run hW.2.1.2.1 hq.out
    go_simp
    with_reducible rfl
  refine hK _ ?_
  clear hK K
  (try simp only [Act.put, List.setIfInBounds_toArray, List.set_cons_zero, List.set_cons_succ])
  refine wpQuiet_step_h hlq ?_
  clear hlq lq
  intro K lq hlq hK
  refine wanted_go (by rfl) ?_
  refine ⟨?_, fun W hW => ?_, ?_⟩
  rotate_left
  · have qx := BoxA.run hW.2.1.2.1 hq.out
    go_simp
    with_reducible rfl
  refine hK _ ?_
  clear hK K
  (try simp only [Act.put, List.setIfInBounds_toArray, List.set_cons_zero, List.set_cons_succ])
  refine wpQuiet_step_h hlq ?_
  clear hlq lq
  intro K lq hlq hK
  refine wanted_go (by rfl) ?_
  refine ⟨?_, fun W hW => ?_, ?_⟩
  rotate_left
  · have qx := BoxA.run hW.2.1.2.1 hq.out
    go_simp
    with_reducible rfl
  refine hK _ ?_
  clear hK K
  (try simp only [Act.put, List.setIfInBounds_toArray, List.set_cons_zero, List.set_cons_succ])
  refine wpQuiet_step_h hlq ?_
  clear hlq lq
  intro K lq hlq hK
  refine wanted_go (by rfl) ?_
  refine ⟨.agg (pCs q (96 + n)).toArray, fun W hW => ?_, ?_⟩
  · have qx := BoxA.run hW.2.1.2.1 hq.out
    exact quiet_build2 (x := .tmp 48) (y := .tmp 51) (vx := .agg (nums .u8 q).toArray) (vy := .int .i64 (96 + n)) rfl rfl rfl (built55 (a := q) (n := 96 + n) hq.out)
  refine hK _ ?_
  clear hK K
  (try simp only [Act.put, List.setIfInBounds_toArray, List.set_cons_zero, List.set_cons_succ])
  refine wpQuiet_nil_h hlq ?_
  clear hlq lq
  intro W5 B5
  have hzA := Lib.hid B5.2.1.1
  have b5 := B5.1
  have bP : Below W5.heap.size W5 (W5.alloc (oP ⟨q, 96 + n⟩)) := (Below.refl _ _).alloc (Nat.le_refl _) _
  have hz7 := Lib.hid (Below.box hzA.out bP (lt_of_obj hzA.out))
  have hp7 := Lib.hid (box1 W5 (oP ⟨q, 96 + n⟩))
  have bel7 := b5.trans (bP.mono b5.size)
  go_wp2_with (first | (refine wpList_store_new rfl 55 (.tmp 11) (.tmp 52) rfl rfl rfl (info55 hq.out _) (by rw [pCs_size hq.out]; rfl) (pCs_one _ _) ?_) | (refine wpList_store_row rfl 55 (.tmp 2) (.tmp 61) rfl w.heap.size (pCs zeroA 0).toArray rfl rfl 55 (pCs zeroA 0).toArray hz7.out (info55 zeroA_ok _) rfl (pCs_one _ _) ?_))
  refine bodyPost_ret (v := .tuple #[vPf zeroP, .int .i64 21]) ?_ rfl ⟨rfl, below_row bel7 (Nat.le_refl _) _⟩
  exact results_cell_tmp rfl _ _ rfl (BoxP.run (p := zeroP) (setRow_heap _ _ _ _ _ _ hz7.out) zeroA_ok).2.2 rfl
set_option maxRecDepth 100000 in
set_option maxHeartbeats 1600000 in
theorem rpp_q_nochk {w : World} {s L R : ByteArray} (hs : s.size < 4294967281) (hc2 : cutB 47 s = [L, R]) {q : List Int} (hq4 : quadS L = some q) {n : Int} (hdn : decF R.data.toList 3 = some n) (hn0 : 0 ≤ n) (hn1 : n ≤ 1000) (hlo : n ≤ 32) (hok : (⟨q, 96 + n⟩ : Pf).ok) (hck : chk ⟨q, 96 + n⟩ = false) : Calls Tryz.prog 61 #[.string s] w fun e w' => e = .returned (.tuple #[vPf zeroP, .int .i64 21]) ∧ Below w.heap.size w w' := by
  have bel0 : Below w.heap.size w (w.alloc (oP zeroP)) := (Below.refl _ _).alloc (Nat.le_refl _) _
  have hz0 := Lib.hid (box1 w (oP zeroP))
  have hcut : ∀ W : World, Calls Tryz.prog 100 #[.string s, .int .u8 47] W fun e w' => (∃ v, e = .returned v ∧ w'.ownsRow 0 9 1 v 2 (strs [L, R]) ∧ Lo W.heap.size v) ∧ Below W.heap.size W w' := fun W => by
    have := cut100_any (w := W) hs 47
    rw [hc2] at this; exact this
  have hLs : L.size ≤ s.size := piece_size2 (c := 47) (by rw [hc2]; exact List.mem_cons_self ..)
  have h4 : ∀ W, Calls Tryz.prog 103 #[.string L] W fun e w' => e = .returned (.tuple #[.agg (nums .u8 q).toArray, .bool true]) ∧ Below W.heap.size W w' := fun W => by
    have := four_any (w := W) (s := L) (by omega)
    unfold QuadR at this; rw [hq4] at this; exact this
  have hq := Lib.hid (quadS_ok hq4)
  have hd := fun W => dec118_any (w := W) R (most := 3) (by decide)
  rw [DecF_yes hdn] at hd
  have dm : decide (32 < n) = false := decide_eq_false (by omega)
  have hw : IntKind.i64.wrap (96 + n) = 96 + n := IntWalk.i64_in _ (by omega)
  have hck2 : (if chk (⟨q, 96 + n⟩ : Pf) then (0 : Int) else 21) = 21 := by rw [hck]; rfl
  replace hck2 := hck2
  clear hck hc2 hLs hs hq4 hdn
  go_enter Tryz.func61, Tryz.ntmps61
  go_upto_region 12 with (first | (go_at_call 100; refine (hcut _).mono ?_; clear hcut; rintro e w1 ⟨⟨v, rfl, hrow, low⟩, bel1⟩; obtain ⟨A, c2, rfl, hc1, hc2'⟩ := own_slice hrow; obtain ⟨k, rfl, -, hkl, hcell, -, -⟩ := own_at hrow (by decide); have bel01 := bel0.trans (bel1.mono bel0.size); have hz1 := Lib.hid (Below.box hz0.out bel1 (lt_of_obj hz0.out)); have l0 : w1.cell? ⟨k, 0, none⟩ = some (.string L) := hcell 0 _ rfl; have l1 : w1.cell? ⟨k, 1, none⟩ = some (.string R) := hcell 1 _ rfl; clear hrow low hcell) | (go_at_call 103; refine (h4 _).mono ?_; clear h4; rintro e w2 ⟨rfl, bel2⟩; have m0 := (Below.cell (p := ⟨k, 0, none⟩) bel2 hkl).trans l0; have m1 := (Below.cell (p := ⟨k, 1, none⟩) bel2 hkl).trans l1; have hz2 := Lib.hid (Below.box hz1.out bel2 (lt_of_obj hz1.out)); have bel02 := bel01.trans (bel2.mono bel01.size); have bA : Below w2.heap.size w2 (w2.alloc (oA q)) := (Below.refl _ _).alloc (Nat.le_refl _) _; have hkl2 := Nat.lt_of_lt_of_le hkl bel2.size; have n0 := (Below.cell (p := ⟨k, 0, none⟩) bA hkl2).trans m0; have n1 := (Below.cell (p := ⟨k, 1, none⟩) bA hkl2).trans m1; have hz3 := Lib.hid (Below.box hz2.out bA (lt_of_obj hz2.out)); have hq3 := Lib.hid (box1 w2 (oA q)); have bel03 := bel02.trans (bA.mono bel02.size); unfold oA at n0 n1; clear l0 l1 m0 m1) | (refine wpList_store_new rfl 42 (.tmp 5) (.tmp 23) rfl rfl rfl (info42 hq.out) (by rw [sizeA hq.out]; rfl) (numsA_one _) ?_) | (go_at_call 118; refine (hd _).mono ?_; clear hd; rintro e w6 ⟨rfl, hw⟩; replace hw := hw.symm; subst hw))
  have hbx : Bx w w.heap.size [(w.heap.size, oP zeroP), (w2.heap.size, oA q)] (w2.alloc (oA q)) := ⟨bel03, ⟨hz3.out, hq3.out, trivial⟩, bel03.size⟩
  go_wp2_with (refine wpList_quiet_take (C := Bx w w.heap.size [(w.heap.size, oP zeroP), (w2.heap.size, oA q)]) 7 5 (by rfl) (hbx) ?_)
  (try simp only [List.take_succ_cons, List.take_zero, List.drop_succ_cons, List.drop_zero])
  refine wpQuiet_hide ?_
  intro lq hlq
  refine wpQuiet_step_h hlq ?_
  clear hlq lq
  intro K lq hlq hK
  refine wanted_go (by rfl) ?_
  refine ⟨vA q, fun W hW => ?_, ?_⟩
  · have qx := BoxA.run hW.2.1.2.1 hq.out
    exact quiet_load 42 _ rfl rfl qx
  refine hK _ ?_
  clear hK K
  (try simp only [Act.put, List.setIfInBounds_toArray, List.set_cons_zero, List.set_cons_succ])
  refine wpQuiet_step_h hlq ?_
  clear hlq lq
  intro K lq hlq hK
  refine wanted_go (by rfl) ?_
  refine ⟨?_, fun W hW => ?_, ?_⟩
  rotate_left
  · have qx := BoxA.run hW.2.1.2.1 hq.out
    go_simp
    with_reducible rfl
  refine hK _ ?_
  clear hK K
  (try simp only [Act.put, List.setIfInBounds_toArray, List.set_cons_zero, List.set_cons_succ])
  refine wpQuiet_step_h hlq ?_
  clear hlq lq
  intro K lq hlq hK
  refine wanted_go (by rfl) ?_
  refine ⟨?_, fun W hW => ?_, ?_⟩
  rotate_left
  · have qx := BoxA.run hW.2.1.2.1 hq.out
    go_simp
    with_reducible rfl
  refine hK _ ?_
  clear hK K
  (try simp only [Act.put, List.setIfInBounds_toArray, List.set_cons_zero, List.set_cons_succ])
  refine wpQuiet_step_h hlq ?_
  clear hlq lq
  intro K lq hlq hK
  refine wanted_go (by rfl) ?_
  refine ⟨?_, fun W hW => ?_, ?_⟩
  rotate_left
  · have qx := BoxA.run hW.2.1.2.1 hq.out
    go_simp
    with_reducible rfl
  refine hK _ ?_
  clear hK K
  (try simp only [Act.put, List.setIfInBounds_toArray, List.set_cons_zero, List.set_cons_succ])
  refine wpQuiet_step_h hlq ?_
  clear hlq lq
  intro K lq hlq hK
  refine wanted_go (by rfl) ?_
  refine ⟨.agg (pCs q (96 + n)).toArray, fun W hW => ?_, ?_⟩
  · have qx := BoxA.run hW.2.1.2.1 hq.out
    exact quiet_build2 (x := .tmp 48) (y := .tmp 51) (vx := .agg (nums .u8 q).toArray) (vy := .int .i64 (96 + n)) rfl rfl rfl (built55 (a := q) (n := 96 + n) hq.out)
  refine hK _ ?_
  clear hK K
  (try simp only [Act.put, List.setIfInBounds_toArray, List.set_cons_zero, List.set_cons_succ])
  refine wpQuiet_nil_h hlq ?_
  clear hlq lq
  intro W5 B5
  have hzA := Lib.hid B5.2.1.1
  have b5 := B5.1
  have bP : Below W5.heap.size W5 (W5.alloc (oP ⟨q, 96 + n⟩)) := (Below.refl _ _).alloc (Nat.le_refl _) _
  have hz7 := Lib.hid (Below.box hzA.out bP (lt_of_obj hzA.out))
  have hp7 := Lib.hid (box1 W5 (oP ⟨q, 96 + n⟩))
  have bel7 := b5.trans (bP.mono b5.size)
  go_upto_region 13 with (refine wpList_store_new rfl 55 (.tmp 11) (.tmp 52) rfl rfl rfl (info55 hq.out _) (by rw [pCs_size hq.out]; rfl) (pCs_one _ _) ?_)
  go_wp2_with (refine wpList_quiet (C := Bx w w.heap.size [(w.heap.size, oP zeroP), (W5.heap.size, oP ⟨q, 96 + n⟩)]) 6 (by rfl) (⟨bel7, ⟨hz7.out, hp7.out, trivial⟩, bel7.size⟩) ?_)
  refine wpQuiet_hide ?_
  intro lq hlq
  refine wpQuiet_step_h hlq ?_
  clear hlq lq
  intro K lq hlq hK
  refine wanted_go (by rfl) ?_
  refine ⟨?_, fun W hW => ?_, ?_⟩
  rotate_left
  · obtain ⟨q1, q2, q3⟩ := BoxP.run hW.2.1.2.1 hok.1
    go_simp
    with_reducible rfl
  refine hK _ ?_
  clear hK K
  (try simp only [Act.put, List.setIfInBounds_toArray, List.set_cons_zero, List.set_cons_succ])
  refine wpQuiet_step_h hlq ?_
  clear hlq lq
  intro K lq hlq hK
  refine wanted_go (by rfl) ?_
  refine ⟨?_, fun W hW => ?_, ?_⟩
  rotate_left
  · obtain ⟨q1, q2, q3⟩ := BoxP.run hW.2.1.2.1 hok.1
    go_simp
    with_reducible rfl
  refine hK _ ?_
  clear hK K
  (try simp only [Act.put, List.setIfInBounds_toArray, List.set_cons_zero, List.set_cons_succ])
  refine wpQuiet_step_h hlq ?_
  clear hlq lq
  intro K lq hlq hK
  refine wanted_go (by rfl) ?_
  refine ⟨vPf ⟨q, 96 + n⟩, fun W hW => ?_, ?_⟩
  · obtain ⟨q1, q2, q3⟩ := BoxP.run hW.2.1.2.1 hok.1
    exact quiet_load 55 _ rfl rfl q3
  refine hK _ ?_
  clear hK K
  (try simp only [Act.put, List.setIfInBounds_toArray, List.set_cons_zero, List.set_cons_succ])
  refine wpQuiet_step_h hlq ?_
  clear hlq lq
  intro K lq hlq hK
  refine wanted_go (by rfl) ?_
  refine ⟨.int .i64 21, fun W hW => ?_, ?_⟩
  · go_simp
    refine (rchk_call hok hck2).mono fun e W2 hc2 => ⟨hc2.1, hW.go hc2.2⟩
  refine hK _ ?_
  clear hK K
  (try simp only [Act.put, List.setIfInBounds_toArray, List.set_cons_zero, List.set_cons_succ])
  refine wpQuiet_step_h hlq ?_
  clear hlq lq
  intro K lq hlq hK
  refine wanted_go (by rfl) ?_
  refine ⟨?_, fun W hW => ?_, ?_⟩
  rotate_left
  · obtain ⟨q1, q2, q3⟩ := BoxP.run hW.2.1.2.1 hok.1
    go_simp
    with_reducible rfl
  refine hK _ ?_
  clear hK K
  (try simp only [Act.put, List.setIfInBounds_toArray, List.set_cons_zero, List.set_cons_succ])
  refine wpQuiet_step_h hlq ?_
  clear hlq lq
  intro K lq hlq hK
  refine wanted_go (by rfl) ?_
  refine ⟨?_, fun W hW => ?_, ?_⟩
  rotate_left
  · obtain ⟨q1, q2, q3⟩ := BoxP.run hW.2.1.2.1 hok.1
    go_simp
    with_reducible rfl
  refine hK _ ?_
  clear hK K
  (try simp only [Act.put, List.setIfInBounds_toArray, List.set_cons_zero, List.set_cons_succ])
  refine wpQuiet_nil_h hlq ?_
  clear hlq lq
  intro W8 B8
  have hz8 := Lib.hid B8.2.1.1
  have hp8 := Lib.hid B8.2.1.2.1
  have bel9 := B8.1
  go_wp2_with (refine wpList_store_row rfl 55 (.tmp 2) (.tmp 61) rfl w.heap.size (pCs zeroA 0).toArray rfl rfl 55 (pCs zeroA 0).toArray hz8.out (info55 zeroA_ok _) rfl (pCs_one _ _) ?_)
  refine bodyPost_ret (v := .tuple #[vPf zeroP, .int .i64 21]) ?_ rfl ⟨rfl, below_row bel9 (Nat.le_refl _) _⟩
  exact results_cell_tmp rfl _ _ rfl (BoxP.run (p := zeroP) (setRow_heap _ _ _ _ _ _ hz8.out) zeroA_ok).2.2 rfl
set_option maxRecDepth 100000 in
set_option maxHeartbeats 1600000 in
theorem rpp_q_yes {w : World} {s L R : ByteArray} (hs : s.size < 4294967281) (hc2 : cutB 47 s = [L, R]) {q : List Int} (hq4 : quadS L = some q) {n : Int} (hdn : decF R.data.toList 3 = some n) (hn0 : 0 ≤ n) (hn1 : n ≤ 1000) (hlo : n ≤ 32) (hok : (⟨q, 96 + n⟩ : Pf).ok) (hck : chk ⟨q, 96 + n⟩ = true) : Calls Tryz.prog 61 #[.string s] w fun e w' => e = .returned (.tuple #[vPf ⟨q, 96 + n⟩, .int .i64 0]) ∧ Below w.heap.size w w' := by
  have bel0 : Below w.heap.size w (w.alloc (oP zeroP)) := (Below.refl _ _).alloc (Nat.le_refl _) _
  have hz0 := Lib.hid (box1 w (oP zeroP))
  have hcut : ∀ W : World, Calls Tryz.prog 100 #[.string s, .int .u8 47] W fun e w' => (∃ v, e = .returned v ∧ w'.ownsRow 0 9 1 v 2 (strs [L, R]) ∧ Lo W.heap.size v) ∧ Below W.heap.size W w' := fun W => by
    have := cut100_any (w := W) hs 47
    rw [hc2] at this; exact this
  have hLs : L.size ≤ s.size := piece_size2 (c := 47) (by rw [hc2]; exact List.mem_cons_self ..)
  have h4 : ∀ W, Calls Tryz.prog 103 #[.string L] W fun e w' => e = .returned (.tuple #[.agg (nums .u8 q).toArray, .bool true]) ∧ Below W.heap.size W w' := fun W => by
    have := four_any (w := W) (s := L) (by omega)
    unfold QuadR at this; rw [hq4] at this; exact this
  have hq := Lib.hid (quadS_ok hq4)
  have hd := fun W => dec118_any (w := W) R (most := 3) (by decide)
  rw [DecF_yes hdn] at hd
  have dm : decide (32 < n) = false := decide_eq_false (by omega)
  have hw : IntKind.i64.wrap (96 + n) = 96 + n := IntWalk.i64_in _ (by omega)
  have hck2 : (if chk (⟨q, 96 + n⟩ : Pf) then (0 : Int) else 21) = 0 := by rw [hck]; rfl
  replace hck2 := hck2
  clear hck hc2 hLs hs hq4 hdn
  go_enter Tryz.func61, Tryz.ntmps61
  go_upto_region 12 with (first | (go_at_call 100; refine (hcut _).mono ?_; clear hcut; rintro e w1 ⟨⟨v, rfl, hrow, low⟩, bel1⟩; obtain ⟨A, c2, rfl, hc1, hc2'⟩ := own_slice hrow; obtain ⟨k, rfl, -, hkl, hcell, -, -⟩ := own_at hrow (by decide); have bel01 := bel0.trans (bel1.mono bel0.size); have hz1 := Lib.hid (Below.box hz0.out bel1 (lt_of_obj hz0.out)); have l0 : w1.cell? ⟨k, 0, none⟩ = some (.string L) := hcell 0 _ rfl; have l1 : w1.cell? ⟨k, 1, none⟩ = some (.string R) := hcell 1 _ rfl; clear hrow low hcell) | (go_at_call 103; refine (h4 _).mono ?_; clear h4; rintro e w2 ⟨rfl, bel2⟩; have m0 := (Below.cell (p := ⟨k, 0, none⟩) bel2 hkl).trans l0; have m1 := (Below.cell (p := ⟨k, 1, none⟩) bel2 hkl).trans l1; have hz2 := Lib.hid (Below.box hz1.out bel2 (lt_of_obj hz1.out)); have bel02 := bel01.trans (bel2.mono bel01.size); have bA : Below w2.heap.size w2 (w2.alloc (oA q)) := (Below.refl _ _).alloc (Nat.le_refl _) _; have hkl2 := Nat.lt_of_lt_of_le hkl bel2.size; have n0 := (Below.cell (p := ⟨k, 0, none⟩) bA hkl2).trans m0; have n1 := (Below.cell (p := ⟨k, 1, none⟩) bA hkl2).trans m1; have hz3 := Lib.hid (Below.box hz2.out bA (lt_of_obj hz2.out)); have hq3 := Lib.hid (box1 w2 (oA q)); have bel03 := bel02.trans (bA.mono bel02.size); unfold oA at n0 n1; clear l0 l1 m0 m1) | (refine wpList_store_new rfl 42 (.tmp 5) (.tmp 23) rfl rfl rfl (info42 hq.out) (by rw [sizeA hq.out]; rfl) (numsA_one _) ?_) | (go_at_call 118; refine (hd _).mono ?_; clear hd; rintro e w6 ⟨rfl, hw⟩; replace hw := hw.symm; subst hw))
  have hbx : Bx w w.heap.size [(w.heap.size, oP zeroP), (w2.heap.size, oA q)] (w2.alloc (oA q)) := ⟨bel03, ⟨hz3.out, hq3.out, trivial⟩, bel03.size⟩
  go_wp2_with (refine wpList_quiet_take (C := Bx w w.heap.size [(w.heap.size, oP zeroP), (w2.heap.size, oA q)]) 7 5 (by rfl) (hbx) ?_)
  (try simp only [List.take_succ_cons, List.take_zero, List.drop_succ_cons, List.drop_zero])
  refine wpQuiet_hide ?_
  intro lq hlq
  refine wpQuiet_step_h hlq ?_
  clear hlq lq
  intro K lq hlq hK
  refine wanted_go (by rfl) ?_
  refine ⟨vA q, fun W hW => ?_, ?_⟩
  · have qx := BoxA.run hW.2.1.2.1 hq.out
    exact quiet_load 42 _ rfl rfl qx
  refine hK _ ?_
  clear hK K
  (try simp only [Act.put, List.setIfInBounds_toArray, List.set_cons_zero, List.set_cons_succ])
  refine wpQuiet_step_h hlq ?_
  clear hlq lq
  intro K lq hlq hK
  refine wanted_go (by rfl) ?_
  refine ⟨?_, fun W hW => ?_, ?_⟩
  rotate_left
  · have qx := BoxA.run hW.2.1.2.1 hq.out
    go_simp
    with_reducible rfl
  refine hK _ ?_
  clear hK K
  (try simp only [Act.put, List.setIfInBounds_toArray, List.set_cons_zero, List.set_cons_succ])
  refine wpQuiet_step_h hlq ?_
  clear hlq lq
  intro K lq hlq hK
  refine wanted_go (by rfl) ?_
  refine ⟨?_, fun W hW => ?_, ?_⟩
  rotate_left
  · have qx := BoxA.run hW.2.1.2.1 hq.out
    go_simp
    with_reducible rfl
  refine hK _ ?_
  clear hK K
  (try simp only [Act.put, List.setIfInBounds_toArray, List.set_cons_zero, List.set_cons_succ])
  refine wpQuiet_step_h hlq ?_
  clear hlq lq
  intro K lq hlq hK
  refine wanted_go (by rfl) ?_
  refine ⟨?_, fun W hW => ?_, ?_⟩
  rotate_left
  · have qx := BoxA.run hW.2.1.2.1 hq.out
    go_simp
    with_reducible rfl
  refine hK _ ?_
  clear hK K
  (try simp only [Act.put, List.setIfInBounds_toArray, List.set_cons_zero, List.set_cons_succ])
  refine wpQuiet_step_h hlq ?_
  clear hlq lq
  intro K lq hlq hK
  refine wanted_go (by rfl) ?_
  refine ⟨.agg (pCs q (96 + n)).toArray, fun W hW => ?_, ?_⟩
  · have qx := BoxA.run hW.2.1.2.1 hq.out
    exact quiet_build2 (x := .tmp 48) (y := .tmp 51) (vx := .agg (nums .u8 q).toArray) (vy := .int .i64 (96 + n)) rfl rfl rfl (built55 (a := q) (n := 96 + n) hq.out)
  refine hK _ ?_
  clear hK K
  (try simp only [Act.put, List.setIfInBounds_toArray, List.set_cons_zero, List.set_cons_succ])
  refine wpQuiet_nil_h hlq ?_
  clear hlq lq
  intro W5 B5
  have hzA := Lib.hid B5.2.1.1
  have b5 := B5.1
  have bP : Below W5.heap.size W5 (W5.alloc (oP ⟨q, 96 + n⟩)) := (Below.refl _ _).alloc (Nat.le_refl _) _
  have hz7 := Lib.hid (Below.box hzA.out bP (lt_of_obj hzA.out))
  have hp7 := Lib.hid (box1 W5 (oP ⟨q, 96 + n⟩))
  have bel7 := b5.trans (bP.mono b5.size)
  go_upto_region 13 with (refine wpList_store_new rfl 55 (.tmp 11) (.tmp 52) rfl rfl rfl (info55 hq.out _) (by rw [pCs_size hq.out]; rfl) (pCs_one _ _) ?_)
  go_wp2_with (refine wpList_quiet (C := Bx w w.heap.size [(w.heap.size, oP zeroP), (W5.heap.size, oP ⟨q, 96 + n⟩)]) 6 (by rfl) (⟨bel7, ⟨hz7.out, hp7.out, trivial⟩, bel7.size⟩) ?_)
  refine wpQuiet_hide ?_
  intro lq hlq
  refine wpQuiet_step_h hlq ?_
  clear hlq lq
  intro K lq hlq hK
  refine wanted_go (by rfl) ?_
  refine ⟨?_, fun W hW => ?_, ?_⟩
  rotate_left
  · obtain ⟨q1, q2, q3⟩ := BoxP.run hW.2.1.2.1 hok.1
    go_simp
    with_reducible rfl
  refine hK _ ?_
  clear hK K
  (try simp only [Act.put, List.setIfInBounds_toArray, List.set_cons_zero, List.set_cons_succ])
  refine wpQuiet_step_h hlq ?_
  clear hlq lq
  intro K lq hlq hK
  refine wanted_go (by rfl) ?_
  refine ⟨?_, fun W hW => ?_, ?_⟩
  rotate_left
  · obtain ⟨q1, q2, q3⟩ := BoxP.run hW.2.1.2.1 hok.1
    go_simp
    with_reducible rfl
  refine hK _ ?_
  clear hK K
  (try simp only [Act.put, List.setIfInBounds_toArray, List.set_cons_zero, List.set_cons_succ])
  refine wpQuiet_step_h hlq ?_
  clear hlq lq
  intro K lq hlq hK
  refine wanted_go (by rfl) ?_
  refine ⟨vPf ⟨q, 96 + n⟩, fun W hW => ?_, ?_⟩
  · obtain ⟨q1, q2, q3⟩ := BoxP.run hW.2.1.2.1 hok.1
    exact quiet_load 55 _ rfl rfl q3
  refine hK _ ?_
  clear hK K
  (try simp only [Act.put, List.setIfInBounds_toArray, List.set_cons_zero, List.set_cons_succ])
  refine wpQuiet_step_h hlq ?_
  clear hlq lq
  intro K lq hlq hK
  refine wanted_go (by rfl) ?_
  refine ⟨.int .i64 0, fun W hW => ?_, ?_⟩
  · go_simp
    refine (rchk_call hok hck2).mono fun e W2 hc2 => ⟨hc2.1, hW.go hc2.2⟩
  refine hK _ ?_
  clear hK K
  (try simp only [Act.put, List.setIfInBounds_toArray, List.set_cons_zero, List.set_cons_succ])
  refine wpQuiet_step_h hlq ?_
  clear hlq lq
  intro K lq hlq hK
  refine wanted_go (by rfl) ?_
  refine ⟨?_, fun W hW => ?_, ?_⟩
  rotate_left
  · obtain ⟨q1, q2, q3⟩ := BoxP.run hW.2.1.2.1 hok.1
    go_simp
    with_reducible rfl
  refine hK _ ?_
  clear hK K
  (try simp only [Act.put, List.setIfInBounds_toArray, List.set_cons_zero, List.set_cons_succ])
  refine wpQuiet_step_h hlq ?_
  clear hlq lq
  intro K lq hlq hK
  refine wanted_go (by rfl) ?_
  refine ⟨?_, fun W hW => ?_, ?_⟩
  rotate_left
  · obtain ⟨q1, q2, q3⟩ := BoxP.run hW.2.1.2.1 hok.1
    go_simp
    with_reducible rfl
  refine hK _ ?_
  clear hK K
  (try simp only [Act.put, List.setIfInBounds_toArray, List.set_cons_zero, List.set_cons_succ])
  refine wpQuiet_nil_h hlq ?_
  clear hlq lq
  intro W8 B8
  have hz8 := Lib.hid B8.2.1.1
  have hp8 := Lib.hid B8.2.1.2.1
  have bel9 := B8.1
  go_wp2_with (first | (refine wpList_load_mid rfl 55 (.tmp 11) rfl W5.heap.size 0 rfl (pCs q (96 + n)) _ (row_load hp8.out) Tryz.underlying55 rfl (info55 hq.out _) ?_) | (refine wpList_store_row rfl 55 (.tmp 2) (.tmp 62) rfl w.heap.size (pCs q (96 + n)).toArray rfl rfl 55 (pCs zeroA 0).toArray hz8.out (info55 hq.out _) (by rw [pCs_size zeroA_ok, pCs_size hq.out]) (pCs_one _ _) ?_))
  refine bodyPost_ret (v := .tuple #[vPf ⟨q, 96 + n⟩, .int .i64 0]) ?_ rfl ⟨rfl, below_row bel9 (Nat.le_refl _) _⟩
  exact results_cell_tmp rfl _ _ rfl (BoxP.run (p := ⟨q, 96 + n⟩) (setRow_heap _ _ _ _ _ _ hz8.out) hok.1).2.2 rfl
set_option maxRecDepth 100000 in
set_option maxHeartbeats 1600000 in
theorem rpp_c_nodec {w : World} {s L R : ByteArray} (hs : s.size < 4294967281) (hc2 : cutB 47 s = [L, R]) {r : List Int} (hq4 : quadS L = none) (hc6 : colS L = some r) (hdn : decF R.data.toList 3 = none) : Calls Tryz.prog 61 #[.string s] w fun e w' => e = .returned (.tuple #[vPf zeroP, .int .i64 20]) ∧ Below w.heap.size w w' := by
  have bel0 : Below w.heap.size w (w.alloc (oP zeroP)) := (Below.refl _ _).alloc (Nat.le_refl _) _
  have hz0 := Lib.hid (box1 w (oP zeroP))
  have hcut : ∀ W : World, Calls Tryz.prog 100 #[.string s, .int .u8 47] W fun e w' => (∃ v, e = .returned v ∧ w'.ownsRow 0 9 1 v 2 (strs [L, R]) ∧ Lo W.heap.size v) ∧ Below W.heap.size W w' := fun W => by
    have := cut100_any (w := W) hs 47
    rw [hc2] at this; exact this
  have hLs : L.size ≤ s.size := piece_size2 (c := 47) (by rw [hc2]; exact List.mem_cons_self ..)
  obtain ⟨q, hqz⟩ : ∃ q, zeroA = q := ⟨_, rfl⟩
  have h4 : ∀ W, Calls Tryz.prog 103 #[.string L] W fun e w' => e = .returned (.tuple #[.agg (nums .u8 q).toArray, .bool false]) ∧ Below W.heap.size W w' := fun W => by
    have := four_any (w := W) (s := L) (by omega)
    unfold QuadR at this; rw [hq4] at this; rw [← hqz]; exact this
  have hq : Hid (isA q) := Lib.hid (by rw [← hqz]; exact zeroA_ok)
  clear hqz
  have h6 : ∀ W, Calls Tryz.prog 104 #[.string L] W fun e w' => e = .returned (.tuple #[.agg (nums .u8 r).toArray, .bool true]) ∧ Below W.heap.size W w' := fun W => by
    have := six_any (w := W) (s := L) (by omega)
    unfold QuadR at this; rw [hc6] at this; exact this
  have hr : Hid (isA r) := Lib.hid (colS_ok hc6)
  have hd := fun W => dec118_any (w := W) R (most := 3) (by decide)
  rw [DecF_no hdn] at hd
  clear hc2 hLs hs hq4 hc6 hdn
  go_enter Tryz.func61, Tryz.ntmps61
  go_wp2_with (first | (go_at_call 100; refine (hcut _).mono ?_; clear hcut; rintro e w1 ⟨⟨v, rfl, hrow, low⟩, bel1⟩; obtain ⟨A, c2, rfl, hc1, hc2'⟩ := own_slice hrow; obtain ⟨k, rfl, -, hkl, hcell, -, -⟩ := own_at hrow (by decide); have bel01 := bel0.trans (bel1.mono bel0.size); have hz1 := Lib.hid (Below.box hz0.out bel1 (lt_of_obj hz0.out)); have l0 : w1.cell? ⟨k, 0, none⟩ = some (.string L) := hcell 0 _ rfl; have l1 : w1.cell? ⟨k, 1, none⟩ = some (.string R) := hcell 1 _ rfl; clear hrow low hcell) | (go_at_call 103; refine (h4 _).mono ?_; clear h4; rintro e w2 ⟨rfl, bel2⟩; have m0 := (Below.cell (p := ⟨k, 0, none⟩) bel2 hkl).trans l0; have m1 := (Below.cell (p := ⟨k, 1, none⟩) bel2 hkl).trans l1; have hz2 := Lib.hid (Below.box hz1.out bel2 (lt_of_obj hz1.out)); have bel02 := bel01.trans (bel2.mono bel01.size); have bA : Below w2.heap.size w2 (w2.alloc (oA q)) := (Below.refl _ _).alloc (Nat.le_refl _) _; have hkl2 := Nat.lt_of_lt_of_le hkl bel2.size; have n0 := (Below.cell (p := ⟨k, 0, none⟩) bA hkl2).trans m0; have n1 := (Below.cell (p := ⟨k, 1, none⟩) bA hkl2).trans m1; have hz3 := Lib.hid (Below.box hz2.out bA (lt_of_obj hz2.out)); have hq3 := Lib.hid (box1 w2 (oA q)); have bel03 := bel02.trans (bA.mono bel02.size); unfold oA at n0 n1; clear l0 l1 m0 m1) | (refine wpList_store_new rfl 42 (.tmp 5) (.tmp 23) rfl rfl rfl (info42 hq.out) (by rw [sizeA hq.out]; rfl) (numsA_one _) ?_) | (go_at_call 104; refine (h6 _).mono ?_; clear h6; rintro e w4 ⟨rfl, bel4⟩; have bel04 := bel03.trans (bel4.mono bel03.size); have hkl4 := Nat.lt_of_lt_of_le hkl2 bA.size; have o1 := (Below.cell (p := ⟨k, 1, none⟩) bel4 hkl4).trans n1; have hz4 := Lib.hid (Below.box hz3.out bel4 (lt_of_obj hz3.out)); have hq4 := Lib.hid (Below.box hq3.out bel4 (lt_of_obj hq3.out)); have fS := Lib.hid (fr_row w4 w2.heap.size (nums .u8 r).toArray); have hkn : k ≠ w2.heap.size := (by omega); have hzn : w.heap.size ≠ w2.heap.size := (by have := bel02.size; have := lt_of_obj hz2.out; omega); have hq5 := Lib.hid (setRow_heap w4 w2.heap.size _ _ _ _ hq4.out : (w4.setRow w2.heap.size (nums .u8 r).toArray).heap[w2.heap.size]? = some (oA r)); have p1 := fS.out.cell o1 hkn; have hz5 := Lib.hid (fS.out.obj hz4.out hzn); have bel05 := bel04.trans (fS.out.belowS (fun b hb => by rw [hb]; exact bel02.size) bel04.size)) | (refine wpList_store_row rfl 42 (.tmp 5) (.tmp 32) rfl w2.heap.size (nums .u8 r).toArray rfl rfl 42 (nums .u8 q).toArray hq4.out (info42 hr.out) (by rw [sizeA hq.out, sizeA hr.out]) (numsA_one _) ?_) | (go_at_call 118; refine (hd _).mono ?_; clear hd; rintro e w6 ⟨rfl, hw⟩; replace hw := hw.symm; subst hw) | (refine wpList_store_row rfl 55 (.tmp 2) (.tmp 47) rfl w.heap.size (pCs zeroA 0).toArray rfl rfl 55 (pCs zeroA 0).toArray hz5.out (info55 zeroA_ok _) rfl (pCs_one _ _) ?_))
  refine bodyPost_ret (v := .tuple #[vPf zeroP, .int .i64 20]) ?_ rfl ⟨rfl, below_row bel05 (Nat.le_refl _) _⟩
  exact results_cell_tmp rfl _ _ rfl (BoxP.run (p := zeroP) (setRow_heap _ _ _ _ _ _ hz5.out) zeroA_ok).2.2 rfl
set_option maxRecDepth 100000 in
set_option maxHeartbeats 1600000 in
theorem rpp_c_long {w : World} {s L R : ByteArray} (hs : s.size < 4294967281) (hc2 : cutB 47 s = [L, R]) {r : List Int} (hq4 : quadS L = none) (hc6 : colS L = some r) {n : Int} (hdn : decF R.data.toList 3 = some n) (hn0 : 0 ≤ n) (hn1 : n ≤ 1000) (hlo : 128 < n) : Calls Tryz.prog 61 #[.string s] w fun e w' => e = .returned (.tuple #[vPf zeroP, .int .i64 21]) ∧ Below w.heap.size w w' := by
  have bel0 : Below w.heap.size w (w.alloc (oP zeroP)) := (Below.refl _ _).alloc (Nat.le_refl _) _
  have hz0 := Lib.hid (box1 w (oP zeroP))
  have hcut : ∀ W : World, Calls Tryz.prog 100 #[.string s, .int .u8 47] W fun e w' => (∃ v, e = .returned v ∧ w'.ownsRow 0 9 1 v 2 (strs [L, R]) ∧ Lo W.heap.size v) ∧ Below W.heap.size W w' := fun W => by
    have := cut100_any (w := W) hs 47
    rw [hc2] at this; exact this
  have hLs : L.size ≤ s.size := piece_size2 (c := 47) (by rw [hc2]; exact List.mem_cons_self ..)
  obtain ⟨q, hqz⟩ : ∃ q, zeroA = q := ⟨_, rfl⟩
  have h4 : ∀ W, Calls Tryz.prog 103 #[.string L] W fun e w' => e = .returned (.tuple #[.agg (nums .u8 q).toArray, .bool false]) ∧ Below W.heap.size W w' := fun W => by
    have := four_any (w := W) (s := L) (by omega)
    unfold QuadR at this; rw [hq4] at this; rw [← hqz]; exact this
  have hq : Hid (isA q) := Lib.hid (by rw [← hqz]; exact zeroA_ok)
  clear hqz
  have h6 : ∀ W, Calls Tryz.prog 104 #[.string L] W fun e w' => e = .returned (.tuple #[.agg (nums .u8 r).toArray, .bool true]) ∧ Below W.heap.size W w' := fun W => by
    have := six_any (w := W) (s := L) (by omega)
    unfold QuadR at this; rw [hc6] at this; exact this
  have hr : Hid (isA r) := Lib.hid (colS_ok hc6)
  have hd := fun W => dec118_any (w := W) R (most := 3) (by decide)
  rw [DecF_yes hdn] at hd
  have dm : decide (128 < n) = true := decide_eq_true (by omega)
  have hw : IntKind.i64.wrap n = n := IntWalk.i64_in _ (by omega)
  clear hc2 hLs hs hq4 hc6 hdn
  go_enter Tryz.func61, Tryz.ntmps61
  go_upto_region 12 with (first | (go_at_call 100; refine (hcut _).mono ?_; clear hcut; rintro e w1 ⟨⟨v, rfl, hrow, low⟩, bel1⟩; obtain ⟨A, c2, rfl, hc1, hc2'⟩ := own_slice hrow; obtain ⟨k, rfl, -, hkl, hcell, -, -⟩ := own_at hrow (by decide); have bel01 := bel0.trans (bel1.mono bel0.size); have hz1 := Lib.hid (Below.box hz0.out bel1 (lt_of_obj hz0.out)); have l0 : w1.cell? ⟨k, 0, none⟩ = some (.string L) := hcell 0 _ rfl; have l1 : w1.cell? ⟨k, 1, none⟩ = some (.string R) := hcell 1 _ rfl; clear hrow low hcell) | (go_at_call 103; refine (h4 _).mono ?_; clear h4; rintro e w2 ⟨rfl, bel2⟩; have m0 := (Below.cell (p := ⟨k, 0, none⟩) bel2 hkl).trans l0; have m1 := (Below.cell (p := ⟨k, 1, none⟩) bel2 hkl).trans l1; have hz2 := Lib.hid (Below.box hz1.out bel2 (lt_of_obj hz1.out)); have bel02 := bel01.trans (bel2.mono bel01.size); have bA : Below w2.heap.size w2 (w2.alloc (oA q)) := (Below.refl _ _).alloc (Nat.le_refl _) _; have hkl2 := Nat.lt_of_lt_of_le hkl bel2.size; have n0 := (Below.cell (p := ⟨k, 0, none⟩) bA hkl2).trans m0; have n1 := (Below.cell (p := ⟨k, 1, none⟩) bA hkl2).trans m1; have hz3 := Lib.hid (Below.box hz2.out bA (lt_of_obj hz2.out)); have hq3 := Lib.hid (box1 w2 (oA q)); have bel03 := bel02.trans (bA.mono bel02.size); unfold oA at n0 n1; clear l0 l1 m0 m1) | (refine wpList_store_new rfl 42 (.tmp 5) (.tmp 23) rfl rfl rfl (info42 hq.out) (by rw [sizeA hq.out]; rfl) (numsA_one _) ?_) | (go_at_call 104; refine (h6 _).mono ?_; clear h6; rintro e w4 ⟨rfl, bel4⟩; have bel04 := bel03.trans (bel4.mono bel03.size); have hkl4 := Nat.lt_of_lt_of_le hkl2 bA.size; have o1 := (Below.cell (p := ⟨k, 1, none⟩) bel4 hkl4).trans n1; have hz4 := Lib.hid (Below.box hz3.out bel4 (lt_of_obj hz3.out)); have hq4 := Lib.hid (Below.box hq3.out bel4 (lt_of_obj hq3.out)); have fS := Lib.hid (fr_row w4 w2.heap.size (nums .u8 r).toArray); have hkn : k ≠ w2.heap.size := (by omega); have hzn : w.heap.size ≠ w2.heap.size := (by have := bel02.size; have := lt_of_obj hz2.out; omega); have hq5 := Lib.hid (setRow_heap w4 w2.heap.size _ _ _ _ hq4.out : (w4.setRow w2.heap.size (nums .u8 r).toArray).heap[w2.heap.size]? = some (oA r)); have p1 := fS.out.cell o1 hkn; have hz5 := Lib.hid (fS.out.obj hz4.out hzn); have bel05 := bel04.trans (fS.out.belowS (fun b hb => by rw [hb]; exact bel02.size) bel04.size)) | (refine wpList_store_row rfl 42 (.tmp 5) (.tmp 32) rfl w2.heap.size (nums .u8 r).toArray rfl rfl 42 (nums .u8 q).toArray hq4.out (info42 hr.out) (by rw [sizeA hq.out, sizeA hr.out]) (numsA_one _) ?_) | (go_at_call 118; refine (hd _).mono ?_; clear hd; rintro e w6 ⟨rfl, hw⟩; replace hw := hw.symm; subst hw))
  have hbx : Bx w w.heap.size [(w.heap.size, oP zeroP), (w2.heap.size, oA r)] (w4.setRow w2.heap.size (nums .u8 r).toArray) := ⟨bel05, ⟨hz5.out, hq5.out, trivial⟩, bel05.size⟩
  go_wp2_with (refine wpList_quiet_take (C := Bx w w.heap.size [(w.heap.size, oP zeroP), (w2.heap.size, oA r)]) 7 5 (by rfl) (hbx) ?_)
  (try simp only [List.take_succ_cons, List.take_zero, List.drop_succ_cons, List.drop_zero])
  refine wpQuiet_hide ?_
  intro lq hlq
  refine wpQuiet_step_h hlq ?_
  clear hlq lq
  intro K lq hlq hK
  refine wanted_go (by rfl) ?_
  refine ⟨vA r, fun W hW => ?_, ?_⟩
  · have qx := BoxA.run hW.2.1.2.1 hr.out
    exact quiet_load 42 _ rfl rfl qx
  refine hK _ ?_
  clear hK K
  (try simp only [Act.put, List.setIfInBounds_toArray, List.set_cons_zero, List.set_cons_succ])
  refine wpQuiet_step_h hlq ?_
  clear hlq lq
  intro K lq hlq hK
  refine wanted_go (by rfl) ?_
  refine ⟨?_, fun W hW => ?_, ?_⟩
  rotate_left
  · have qx := BoxA.run hW.2.1.2.1 hr.out
    go_simp
    with_reducible rfl
  refine hK _ ?_
  clear hK K
  (try simp only [Act.put, List.setIfInBounds_toArray, List.set_cons_zero, List.set_cons_succ])
  refine wpQuiet_step_h hlq ?_
  clear hlq lq
  intro K lq hlq hK
  refine wanted_go (by rfl) ?_
  refine ⟨?_, fun W hW => ?_, ?_⟩
  rotate_left
  · have qx := BoxA.run hW.2.1.2.1 hr.out
    go_simp
    with_reducible rfl
  refine hK _ ?_
  clear hK K
  (try simp only [Act.put, List.setIfInBounds_toArray, List.set_cons_zero, List.set_cons_succ])
  refine wpQuiet_step_h hlq ?_
  clear hlq lq
  intro K lq hlq hK
  refine wanted_go (by rfl) ?_
  refine ⟨?_, fun W hW => ?_, ?_⟩
  rotate_left
  · have qx := BoxA.run hW.2.1.2.1 hr.out
    go_simp
    with_reducible rfl
  refine hK _ ?_
  clear hK K
  (try simp only [Act.put, List.setIfInBounds_toArray, List.set_cons_zero, List.set_cons_succ])
  refine wpQuiet_step_h hlq ?_
  clear hlq lq
  intro K lq hlq hK
  refine wanted_go (by rfl) ?_
  refine ⟨.agg (pCs r (n)).toArray, fun W hW => ?_, ?_⟩
  · have qx := BoxA.run hW.2.1.2.1 hr.out
    exact quiet_build2 (x := .tmp 48) (y := .tmp 51) (vx := .agg (nums .u8 r).toArray) (vy := .int .i64 (n)) rfl rfl rfl (built55 (a := r) (n := n) hr.out)
  refine hK _ ?_
  clear hK K
  (try simp only [Act.put, List.setIfInBounds_toArray, List.set_cons_zero, List.set_cons_succ])
  refine wpQuiet_nil_h hlq ?_
  clear hlq lq
  intro W5 B5
  have hzA := Lib.hid B5.2.1.1
  have b5 := B5.1
  have bP : Below W5.heap.size W5 (W5.alloc (oP ⟨r, n⟩)) := (Below.refl _ _).alloc (Nat.le_refl _) _
  have hz7 := Lib.hid (Below.box hzA.out bP (lt_of_obj hzA.out))
  have hp7 := Lib.hid (box1 W5 (oP ⟨r, n⟩))
  have bel7 := b5.trans (bP.mono b5.size)
  go_wp2_with (first | (refine wpList_store_new rfl 55 (.tmp 11) (.tmp 52) rfl rfl rfl (info55 hr.out _) (by rw [pCs_size hr.out]; rfl) (pCs_one _ _) ?_) | (refine wpList_store_row rfl 55 (.tmp 2) (.tmp 61) rfl w.heap.size (pCs zeroA 0).toArray rfl rfl 55 (pCs zeroA 0).toArray hz7.out (info55 zeroA_ok _) rfl (pCs_one _ _) ?_))
  refine bodyPost_ret (v := .tuple #[vPf zeroP, .int .i64 21]) ?_ rfl ⟨rfl, below_row bel7 (Nat.le_refl _) _⟩
  exact results_cell_tmp rfl _ _ rfl (BoxP.run (p := zeroP) (setRow_heap _ _ _ _ _ _ hz7.out) zeroA_ok).2.2 rfl
set_option maxRecDepth 100000 in
set_option maxHeartbeats 1600000 in
theorem rpp_c_nochk {w : World} {s L R : ByteArray} (hs : s.size < 4294967281) (hc2 : cutB 47 s = [L, R]) {r : List Int} (hq4 : quadS L = none) (hc6 : colS L = some r) {n : Int} (hdn : decF R.data.toList 3 = some n) (hn0 : 0 ≤ n) (hn1 : n ≤ 1000) (hlo : n ≤ 128) (hok : (⟨r, n⟩ : Pf).ok) (hck : chk ⟨r, n⟩ = false) : Calls Tryz.prog 61 #[.string s] w fun e w' => e = .returned (.tuple #[vPf zeroP, .int .i64 21]) ∧ Below w.heap.size w w' := by
  have bel0 : Below w.heap.size w (w.alloc (oP zeroP)) := (Below.refl _ _).alloc (Nat.le_refl _) _
  have hz0 := Lib.hid (box1 w (oP zeroP))
  have hcut : ∀ W : World, Calls Tryz.prog 100 #[.string s, .int .u8 47] W fun e w' => (∃ v, e = .returned v ∧ w'.ownsRow 0 9 1 v 2 (strs [L, R]) ∧ Lo W.heap.size v) ∧ Below W.heap.size W w' := fun W => by
    have := cut100_any (w := W) hs 47
    rw [hc2] at this; exact this
  have hLs : L.size ≤ s.size := piece_size2 (c := 47) (by rw [hc2]; exact List.mem_cons_self ..)
  obtain ⟨q, hqz⟩ : ∃ q, zeroA = q := ⟨_, rfl⟩
  have h4 : ∀ W, Calls Tryz.prog 103 #[.string L] W fun e w' => e = .returned (.tuple #[.agg (nums .u8 q).toArray, .bool false]) ∧ Below W.heap.size W w' := fun W => by
    have := four_any (w := W) (s := L) (by omega)
    unfold QuadR at this; rw [hq4] at this; rw [← hqz]; exact this
  have hq : Hid (isA q) := Lib.hid (by rw [← hqz]; exact zeroA_ok)
  clear hqz
  have h6 : ∀ W, Calls Tryz.prog 104 #[.string L] W fun e w' => e = .returned (.tuple #[.agg (nums .u8 r).toArray, .bool true]) ∧ Below W.heap.size W w' := fun W => by
    have := six_any (w := W) (s := L) (by omega)
    unfold QuadR at this; rw [hc6] at this; exact this
  have hr : Hid (isA r) := Lib.hid (colS_ok hc6)
  have hd := fun W => dec118_any (w := W) R (most := 3) (by decide)
  rw [DecF_yes hdn] at hd
  have dm : decide (128 < n) = false := decide_eq_false (by omega)
  have hw : IntKind.i64.wrap n = n := IntWalk.i64_in _ (by omega)
  have hck2 : (if chk (⟨r, n⟩ : Pf) then (0 : Int) else 21) = 21 := by rw [hck]; rfl
  replace hck2 := hck2
  clear hck hc2 hLs hs hq4 hc6 hdn
  go_enter Tryz.func61, Tryz.ntmps61
  go_upto_region 12 with (first | (go_at_call 100; refine (hcut _).mono ?_; clear hcut; rintro e w1 ⟨⟨v, rfl, hrow, low⟩, bel1⟩; obtain ⟨A, c2, rfl, hc1, hc2'⟩ := own_slice hrow; obtain ⟨k, rfl, -, hkl, hcell, -, -⟩ := own_at hrow (by decide); have bel01 := bel0.trans (bel1.mono bel0.size); have hz1 := Lib.hid (Below.box hz0.out bel1 (lt_of_obj hz0.out)); have l0 : w1.cell? ⟨k, 0, none⟩ = some (.string L) := hcell 0 _ rfl; have l1 : w1.cell? ⟨k, 1, none⟩ = some (.string R) := hcell 1 _ rfl; clear hrow low hcell) | (go_at_call 103; refine (h4 _).mono ?_; clear h4; rintro e w2 ⟨rfl, bel2⟩; have m0 := (Below.cell (p := ⟨k, 0, none⟩) bel2 hkl).trans l0; have m1 := (Below.cell (p := ⟨k, 1, none⟩) bel2 hkl).trans l1; have hz2 := Lib.hid (Below.box hz1.out bel2 (lt_of_obj hz1.out)); have bel02 := bel01.trans (bel2.mono bel01.size); have bA : Below w2.heap.size w2 (w2.alloc (oA q)) := (Below.refl _ _).alloc (Nat.le_refl _) _; have hkl2 := Nat.lt_of_lt_of_le hkl bel2.size; have n0 := (Below.cell (p := ⟨k, 0, none⟩) bA hkl2).trans m0; have n1 := (Below.cell (p := ⟨k, 1, none⟩) bA hkl2).trans m1; have hz3 := Lib.hid (Below.box hz2.out bA (lt_of_obj hz2.out)); have hq3 := Lib.hid (box1 w2 (oA q)); have bel03 := bel02.trans (bA.mono bel02.size); unfold oA at n0 n1; clear l0 l1 m0 m1) | (refine wpList_store_new rfl 42 (.tmp 5) (.tmp 23) rfl rfl rfl (info42 hq.out) (by rw [sizeA hq.out]; rfl) (numsA_one _) ?_) | (go_at_call 104; refine (h6 _).mono ?_; clear h6; rintro e w4 ⟨rfl, bel4⟩; have bel04 := bel03.trans (bel4.mono bel03.size); have hkl4 := Nat.lt_of_lt_of_le hkl2 bA.size; have o1 := (Below.cell (p := ⟨k, 1, none⟩) bel4 hkl4).trans n1; have hz4 := Lib.hid (Below.box hz3.out bel4 (lt_of_obj hz3.out)); have hq4 := Lib.hid (Below.box hq3.out bel4 (lt_of_obj hq3.out)); have fS := Lib.hid (fr_row w4 w2.heap.size (nums .u8 r).toArray); have hkn : k ≠ w2.heap.size := (by omega); have hzn : w.heap.size ≠ w2.heap.size := (by have := bel02.size; have := lt_of_obj hz2.out; omega); have hq5 := Lib.hid (setRow_heap w4 w2.heap.size _ _ _ _ hq4.out : (w4.setRow w2.heap.size (nums .u8 r).toArray).heap[w2.heap.size]? = some (oA r)); have p1 := fS.out.cell o1 hkn; have hz5 := Lib.hid (fS.out.obj hz4.out hzn); have bel05 := bel04.trans (fS.out.belowS (fun b hb => by rw [hb]; exact bel02.size) bel04.size)) | (refine wpList_store_row rfl 42 (.tmp 5) (.tmp 32) rfl w2.heap.size (nums .u8 r).toArray rfl rfl 42 (nums .u8 q).toArray hq4.out (info42 hr.out) (by rw [sizeA hq.out, sizeA hr.out]) (numsA_one _) ?_) | (go_at_call 118; refine (hd _).mono ?_; clear hd; rintro e w6 ⟨rfl, hw⟩; replace hw := hw.symm; subst hw))
  have hbx : Bx w w.heap.size [(w.heap.size, oP zeroP), (w2.heap.size, oA r)] (w4.setRow w2.heap.size (nums .u8 r).toArray) := ⟨bel05, ⟨hz5.out, hq5.out, trivial⟩, bel05.size⟩
  go_wp2_with (refine wpList_quiet_take (C := Bx w w.heap.size [(w.heap.size, oP zeroP), (w2.heap.size, oA r)]) 7 5 (by rfl) (hbx) ?_)
  (try simp only [List.take_succ_cons, List.take_zero, List.drop_succ_cons, List.drop_zero])
  refine wpQuiet_hide ?_
  intro lq hlq
  refine wpQuiet_step_h hlq ?_
  clear hlq lq
  intro K lq hlq hK
  refine wanted_go (by rfl) ?_
  refine ⟨vA r, fun W hW => ?_, ?_⟩
  · have qx := BoxA.run hW.2.1.2.1 hr.out
    exact quiet_load 42 _ rfl rfl qx
  refine hK _ ?_
  clear hK K
  (try simp only [Act.put, List.setIfInBounds_toArray, List.set_cons_zero, List.set_cons_succ])
  refine wpQuiet_step_h hlq ?_
  clear hlq lq
  intro K lq hlq hK
  refine wanted_go (by rfl) ?_
  refine ⟨?_, fun W hW => ?_, ?_⟩
  rotate_left
  · have qx := BoxA.run hW.2.1.2.1 hr.out
    go_simp
    with_reducible rfl
  refine hK _ ?_
  clear hK K
  (try simp only [Act.put, List.setIfInBounds_toArray, List.set_cons_zero, List.set_cons_succ])
  refine wpQuiet_step_h hlq ?_
  clear hlq lq
  intro K lq hlq hK
  refine wanted_go (by rfl) ?_
  refine ⟨?_, fun W hW => ?_, ?_⟩
  rotate_left
  · have qx := BoxA.run hW.2.1.2.1 hr.out
    go_simp
    with_reducible rfl
  refine hK _ ?_
  clear hK K
  (try simp only [Act.put, List.setIfInBounds_toArray, List.set_cons_zero, List.set_cons_succ])
  refine wpQuiet_step_h hlq ?_
  clear hlq lq
  intro K lq hlq hK
  refine wanted_go (by rfl) ?_
  refine ⟨?_, fun W hW => ?_, ?_⟩
  rotate_left
  · have qx := BoxA.run hW.2.1.2.1 hr.out
    go_simp
    with_reducible rfl
  refine hK _ ?_
  clear hK K
  (try simp only [Act.put, List.setIfInBounds_toArray, List.set_cons_zero, List.set_cons_succ])
  refine wpQuiet_step_h hlq ?_
  clear hlq lq
  intro K lq hlq hK
  refine wanted_go (by rfl) ?_
  refine ⟨.agg (pCs r (n)).toArray, fun W hW => ?_, ?_⟩
  · have qx := BoxA.run hW.2.1.2.1 hr.out
    exact quiet_build2 (x := .tmp 48) (y := .tmp 51) (vx := .agg (nums .u8 r).toArray) (vy := .int .i64 (n)) rfl rfl rfl (built55 (a := r) (n := n) hr.out)
  refine hK _ ?_
  clear hK K
  (try simp only [Act.put, List.setIfInBounds_toArray, List.set_cons_zero, List.set_cons_succ])
  refine wpQuiet_nil_h hlq ?_
  clear hlq lq
  intro W5 B5
  have hzA := Lib.hid B5.2.1.1
  have b5 := B5.1
  have bP : Below W5.heap.size W5 (W5.alloc (oP ⟨r, n⟩)) := (Below.refl _ _).alloc (Nat.le_refl _) _
  have hz7 := Lib.hid (Below.box hzA.out bP (lt_of_obj hzA.out))
  have hp7 := Lib.hid (box1 W5 (oP ⟨r, n⟩))
  have bel7 := b5.trans (bP.mono b5.size)
  go_upto_region 13 with (refine wpList_store_new rfl 55 (.tmp 11) (.tmp 52) rfl rfl rfl (info55 hr.out _) (by rw [pCs_size hr.out]; rfl) (pCs_one _ _) ?_)
  go_wp2_with (refine wpList_quiet (C := Bx w w.heap.size [(w.heap.size, oP zeroP), (W5.heap.size, oP ⟨r, n⟩)]) 6 (by rfl) (⟨bel7, ⟨hz7.out, hp7.out, trivial⟩, bel7.size⟩) ?_)
  refine wpQuiet_hide ?_
  intro lq hlq
  refine wpQuiet_step_h hlq ?_
  clear hlq lq
  intro K lq hlq hK
  refine wanted_go (by rfl) ?_
  refine ⟨?_, fun W hW => ?_, ?_⟩
  rotate_left
  · obtain ⟨q1, q2, q3⟩ := BoxP.run hW.2.1.2.1 hok.1
    go_simp
    with_reducible rfl
  refine hK _ ?_
  clear hK K
  (try simp only [Act.put, List.setIfInBounds_toArray, List.set_cons_zero, List.set_cons_succ])
  refine wpQuiet_step_h hlq ?_
  clear hlq lq
  intro K lq hlq hK
  refine wanted_go (by rfl) ?_
  refine ⟨?_, fun W hW => ?_, ?_⟩
  rotate_left
  · obtain ⟨q1, q2, q3⟩ := BoxP.run hW.2.1.2.1 hok.1
    go_simp
    with_reducible rfl
  refine hK _ ?_
  clear hK K
  (try simp only [Act.put, List.setIfInBounds_toArray, List.set_cons_zero, List.set_cons_succ])
  refine wpQuiet_step_h hlq ?_
  clear hlq lq
  intro K lq hlq hK
  refine wanted_go (by rfl) ?_
  refine ⟨vPf ⟨r, n⟩, fun W hW => ?_, ?_⟩
  · obtain ⟨q1, q2, q3⟩ := BoxP.run hW.2.1.2.1 hok.1
    exact quiet_load 55 _ rfl rfl q3
  refine hK _ ?_
  clear hK K
  (try simp only [Act.put, List.setIfInBounds_toArray, List.set_cons_zero, List.set_cons_succ])
  refine wpQuiet_step_h hlq ?_
  clear hlq lq
  intro K lq hlq hK
  refine wanted_go (by rfl) ?_
  refine ⟨.int .i64 21, fun W hW => ?_, ?_⟩
  · go_simp
    refine (rchk_call hok hck2).mono fun e W2 hc2 => ⟨hc2.1, hW.go hc2.2⟩
  refine hK _ ?_
  clear hK K
  (try simp only [Act.put, List.setIfInBounds_toArray, List.set_cons_zero, List.set_cons_succ])
  refine wpQuiet_step_h hlq ?_
  clear hlq lq
  intro K lq hlq hK
  refine wanted_go (by rfl) ?_
  refine ⟨?_, fun W hW => ?_, ?_⟩
  rotate_left
  · obtain ⟨q1, q2, q3⟩ := BoxP.run hW.2.1.2.1 hok.1
    go_simp
    with_reducible rfl
  refine hK _ ?_
  clear hK K
  (try simp only [Act.put, List.setIfInBounds_toArray, List.set_cons_zero, List.set_cons_succ])
  refine wpQuiet_step_h hlq ?_
  clear hlq lq
  intro K lq hlq hK
  refine wanted_go (by rfl) ?_
  refine ⟨?_, fun W hW => ?_, ?_⟩
  rotate_left
  · obtain ⟨q1, q2, q3⟩ := BoxP.run hW.2.1.2.1 hok.1
    go_simp
    with_reducible rfl
  refine hK _ ?_
  clear hK K
  (try simp only [Act.put, List.setIfInBounds_toArray, List.set_cons_zero, List.set_cons_succ])
  refine wpQuiet_nil_h hlq ?_
  clear hlq lq
  intro W8 B8
  have hz8 := Lib.hid B8.2.1.1
  have hp8 := Lib.hid B8.2.1.2.1
  have bel9 := B8.1
  go_wp2_with (refine wpList_store_row rfl 55 (.tmp 2) (.tmp 61) rfl w.heap.size (pCs zeroA 0).toArray rfl rfl 55 (pCs zeroA 0).toArray hz8.out (info55 zeroA_ok _) rfl (pCs_one _ _) ?_)
  refine bodyPost_ret (v := .tuple #[vPf zeroP, .int .i64 21]) ?_ rfl ⟨rfl, below_row bel9 (Nat.le_refl _) _⟩
  exact results_cell_tmp rfl _ _ rfl (BoxP.run (p := zeroP) (setRow_heap _ _ _ _ _ _ hz8.out) zeroA_ok).2.2 rfl
set_option maxRecDepth 100000 in
set_option maxHeartbeats 1600000 in
theorem rpp_c_yes {w : World} {s L R : ByteArray} (hs : s.size < 4294967281) (hc2 : cutB 47 s = [L, R]) {r : List Int} (hq4 : quadS L = none) (hc6 : colS L = some r) {n : Int} (hdn : decF R.data.toList 3 = some n) (hn0 : 0 ≤ n) (hn1 : n ≤ 1000) (hlo : n ≤ 128) (hok : (⟨r, n⟩ : Pf).ok) (hck : chk ⟨r, n⟩ = true) : Calls Tryz.prog 61 #[.string s] w fun e w' => e = .returned (.tuple #[vPf ⟨r, n⟩, .int .i64 0]) ∧ Below w.heap.size w w' := by
  have bel0 : Below w.heap.size w (w.alloc (oP zeroP)) := (Below.refl _ _).alloc (Nat.le_refl _) _
  have hz0 := Lib.hid (box1 w (oP zeroP))
  have hcut : ∀ W : World, Calls Tryz.prog 100 #[.string s, .int .u8 47] W fun e w' => (∃ v, e = .returned v ∧ w'.ownsRow 0 9 1 v 2 (strs [L, R]) ∧ Lo W.heap.size v) ∧ Below W.heap.size W w' := fun W => by
    have := cut100_any (w := W) hs 47
    rw [hc2] at this; exact this
  have hLs : L.size ≤ s.size := piece_size2 (c := 47) (by rw [hc2]; exact List.mem_cons_self ..)
  obtain ⟨q, hqz⟩ : ∃ q, zeroA = q := ⟨_, rfl⟩
  have h4 : ∀ W, Calls Tryz.prog 103 #[.string L] W fun e w' => e = .returned (.tuple #[.agg (nums .u8 q).toArray, .bool false]) ∧ Below W.heap.size W w' := fun W => by
    have := four_any (w := W) (s := L) (by omega)
    unfold QuadR at this; rw [hq4] at this; rw [← hqz]; exact this
  have hq : Hid (isA q) := Lib.hid (by rw [← hqz]; exact zeroA_ok)
  clear hqz
  have h6 : ∀ W, Calls Tryz.prog 104 #[.string L] W fun e w' => e = .returned (.tuple #[.agg (nums .u8 r).toArray, .bool true]) ∧ Below W.heap.size W w' := fun W => by
    have := six_any (w := W) (s := L) (by omega)
    unfold QuadR at this; rw [hc6] at this; exact this
  have hr : Hid (isA r) := Lib.hid (colS_ok hc6)
  have hd := fun W => dec118_any (w := W) R (most := 3) (by decide)
  rw [DecF_yes hdn] at hd
  have dm : decide (128 < n) = false := decide_eq_false (by omega)
  have hw : IntKind.i64.wrap n = n := IntWalk.i64_in _ (by omega)
  have hck2 : (if chk (⟨r, n⟩ : Pf) then (0 : Int) else 21) = 0 := by rw [hck]; rfl
  replace hck2 := hck2
  clear hck hc2 hLs hs hq4 hc6 hdn
  go_enter Tryz.func61, Tryz.ntmps61
  go_upto_region 12 with (first | (go_at_call 100; refine (hcut _).mono ?_; clear hcut; rintro e w1 ⟨⟨v, rfl, hrow, low⟩, bel1⟩; obtain ⟨A, c2, rfl, hc1, hc2'⟩ := own_slice hrow; obtain ⟨k, rfl, -, hkl, hcell, -, -⟩ := own_at hrow (by decide); have bel01 := bel0.trans (bel1.mono bel0.size); have hz1 := Lib.hid (Below.box hz0.out bel1 (lt_of_obj hz0.out)); have l0 : w1.cell? ⟨k, 0, none⟩ = some (.string L) := hcell 0 _ rfl; have l1 : w1.cell? ⟨k, 1, none⟩ = some (.string R) := hcell 1 _ rfl; clear hrow low hcell) | (go_at_call 103; refine (h4 _).mono ?_; clear h4; rintro e w2 ⟨rfl, bel2⟩; have m0 := (Below.cell (p := ⟨k, 0, none⟩) bel2 hkl).trans l0; have m1 := (Below.cell (p := ⟨k, 1, none⟩) bel2 hkl).trans l1; have hz2 := Lib.hid (Below.box hz1.out bel2 (lt_of_obj hz1.out)); have bel02 := bel01.trans (bel2.mono bel01.size); have bA : Below w2.heap.size w2 (w2.alloc (oA q)) := (Below.refl _ _).alloc (Nat.le_refl _) _; have hkl2 := Nat.lt_of_lt_of_le hkl bel2.size; have n0 := (Below.cell (p := ⟨k, 0, none⟩) bA hkl2).trans m0; have n1 := (Below.cell (p := ⟨k, 1, none⟩) bA hkl2).trans m1; have hz3 := Lib.hid (Below.box hz2.out bA (lt_of_obj hz2.out)); have hq3 := Lib.hid (box1 w2 (oA q)); have bel03 := bel02.trans (bA.mono bel02.size); unfold oA at n0 n1; clear l0 l1 m0 m1) | (refine wpList_store_new rfl 42 (.tmp 5) (.tmp 23) rfl rfl rfl (info42 hq.out) (by rw [sizeA hq.out]; rfl) (numsA_one _) ?_) | (go_at_call 104; refine (h6 _).mono ?_; clear h6; rintro e w4 ⟨rfl, bel4⟩; have bel04 := bel03.trans (bel4.mono bel03.size); have hkl4 := Nat.lt_of_lt_of_le hkl2 bA.size; have o1 := (Below.cell (p := ⟨k, 1, none⟩) bel4 hkl4).trans n1; have hz4 := Lib.hid (Below.box hz3.out bel4 (lt_of_obj hz3.out)); have hq4 := Lib.hid (Below.box hq3.out bel4 (lt_of_obj hq3.out)); have fS := Lib.hid (fr_row w4 w2.heap.size (nums .u8 r).toArray); have hkn : k ≠ w2.heap.size := (by omega); have hzn : w.heap.size ≠ w2.heap.size := (by have := bel02.size; have := lt_of_obj hz2.out; omega); have hq5 := Lib.hid (setRow_heap w4 w2.heap.size _ _ _ _ hq4.out : (w4.setRow w2.heap.size (nums .u8 r).toArray).heap[w2.heap.size]? = some (oA r)); have p1 := fS.out.cell o1 hkn; have hz5 := Lib.hid (fS.out.obj hz4.out hzn); have bel05 := bel04.trans (fS.out.belowS (fun b hb => by rw [hb]; exact bel02.size) bel04.size)) | (refine wpList_store_row rfl 42 (.tmp 5) (.tmp 32) rfl w2.heap.size (nums .u8 r).toArray rfl rfl 42 (nums .u8 q).toArray hq4.out (info42 hr.out) (by rw [sizeA hq.out, sizeA hr.out]) (numsA_one _) ?_) | (go_at_call 118; refine (hd _).mono ?_; clear hd; rintro e w6 ⟨rfl, hw⟩; replace hw := hw.symm; subst hw))
  have hbx : Bx w w.heap.size [(w.heap.size, oP zeroP), (w2.heap.size, oA r)] (w4.setRow w2.heap.size (nums .u8 r).toArray) := ⟨bel05, ⟨hz5.out, hq5.out, trivial⟩, bel05.size⟩
  go_wp2_with (refine wpList_quiet_take (C := Bx w w.heap.size [(w.heap.size, oP zeroP), (w2.heap.size, oA r)]) 7 5 (by rfl) (hbx) ?_)
  (try simp only [List.take_succ_cons, List.take_zero, List.drop_succ_cons, List.drop_zero])
  refine wpQuiet_hide ?_
  intro lq hlq
  refine wpQuiet_step_h hlq ?_
  clear hlq lq
  intro K lq hlq hK
  refine wanted_go (by rfl) ?_
  refine ⟨vA r, fun W hW => ?_, ?_⟩
  · have qx := BoxA.run hW.2.1.2.1 hr.out
    exact quiet_load 42 _ rfl rfl qx
  refine hK _ ?_
  clear hK K
  (try simp only [Act.put, List.setIfInBounds_toArray, List.set_cons_zero, List.set_cons_succ])
  refine wpQuiet_step_h hlq ?_
  clear hlq lq
  intro K lq hlq hK
  refine wanted_go (by rfl) ?_
  refine ⟨?_, fun W hW => ?_, ?_⟩
  rotate_left
  · have qx := BoxA.run hW.2.1.2.1 hr.out
    go_simp
    with_reducible rfl
  refine hK _ ?_
  clear hK K
  (try simp only [Act.put, List.setIfInBounds_toArray, List.set_cons_zero, List.set_cons_succ])
  refine wpQuiet_step_h hlq ?_
  clear hlq lq
  intro K lq hlq hK
  refine wanted_go (by rfl) ?_
  refine ⟨?_, fun W hW => ?_, ?_⟩
  rotate_left
  · have qx := BoxA.run hW.2.1.2.1 hr.out
    go_simp
    with_reducible rfl
  refine hK _ ?_
  clear hK K
  (try simp only [Act.put, List.setIfInBounds_toArray, List.set_cons_zero, List.set_cons_succ])
  refine wpQuiet_step_h hlq ?_
  clear hlq lq
  intro K lq hlq hK
  refine wanted_go (by rfl) ?_
  refine ⟨?_, fun W hW => ?_, ?_⟩
  rotate_left
  · have qx := BoxA.run hW.2.1.2.1 hr.out
    go_simp
    with_reducible rfl
  refine hK _ ?_
  clear hK K
  (try simp only [Act.put, List.setIfInBounds_toArray, List.set_cons_zero, List.set_cons_succ])
  refine wpQuiet_step_h hlq ?_
  clear hlq lq
  intro K lq hlq hK
  refine wanted_go (by rfl) ?_
  refine ⟨.agg (pCs r (n)).toArray, fun W hW => ?_, ?_⟩
  · have qx := BoxA.run hW.2.1.2.1 hr.out
    exact quiet_build2 (x := .tmp 48) (y := .tmp 51) (vx := .agg (nums .u8 r).toArray) (vy := .int .i64 (n)) rfl rfl rfl (built55 (a := r) (n := n) hr.out)
  refine hK _ ?_
  clear hK K
  (try simp only [Act.put, List.setIfInBounds_toArray, List.set_cons_zero, List.set_cons_succ])
  refine wpQuiet_nil_h hlq ?_
  clear hlq lq
  intro W5 B5
  have hzA := Lib.hid B5.2.1.1
  have b5 := B5.1
  have bP : Below W5.heap.size W5 (W5.alloc (oP ⟨r, n⟩)) := (Below.refl _ _).alloc (Nat.le_refl _) _
  have hz7 := Lib.hid (Below.box hzA.out bP (lt_of_obj hzA.out))
  have hp7 := Lib.hid (box1 W5 (oP ⟨r, n⟩))
  have bel7 := b5.trans (bP.mono b5.size)
  go_upto_region 13 with (refine wpList_store_new rfl 55 (.tmp 11) (.tmp 52) rfl rfl rfl (info55 hr.out _) (by rw [pCs_size hr.out]; rfl) (pCs_one _ _) ?_)
  go_wp2_with (refine wpList_quiet (C := Bx w w.heap.size [(w.heap.size, oP zeroP), (W5.heap.size, oP ⟨r, n⟩)]) 6 (by rfl) (⟨bel7, ⟨hz7.out, hp7.out, trivial⟩, bel7.size⟩) ?_)
  refine wpQuiet_hide ?_
  intro lq hlq
  refine wpQuiet_step_h hlq ?_
  clear hlq lq
  intro K lq hlq hK
  refine wanted_go (by rfl) ?_
  refine ⟨?_, fun W hW => ?_, ?_⟩
  rotate_left
  · obtain ⟨q1, q2, q3⟩ := BoxP.run hW.2.1.2.1 hok.1
    go_simp
    with_reducible rfl
  refine hK _ ?_
  clear hK K
  (try simp only [Act.put, List.setIfInBounds_toArray, List.set_cons_zero, List.set_cons_succ])
  refine wpQuiet_step_h hlq ?_
  clear hlq lq
  intro K lq hlq hK
  refine wanted_go (by rfl) ?_
  refine ⟨?_, fun W hW => ?_, ?_⟩
  rotate_left
  · obtain ⟨q1, q2, q3⟩ := BoxP.run hW.2.1.2.1 hok.1
    go_simp
    with_reducible rfl
  refine hK _ ?_
  clear hK K
  (try simp only [Act.put, List.setIfInBounds_toArray, List.set_cons_zero, List.set_cons_succ])
  refine wpQuiet_step_h hlq ?_
  clear hlq lq
  intro K lq hlq hK
  refine wanted_go (by rfl) ?_
  refine ⟨vPf ⟨r, n⟩, fun W hW => ?_, ?_⟩
  · obtain ⟨q1, q2, q3⟩ := BoxP.run hW.2.1.2.1 hok.1
    exact quiet_load 55 _ rfl rfl q3
  refine hK _ ?_
  clear hK K
  (try simp only [Act.put, List.setIfInBounds_toArray, List.set_cons_zero, List.set_cons_succ])
  refine wpQuiet_step_h hlq ?_
  clear hlq lq
  intro K lq hlq hK
  refine wanted_go (by rfl) ?_
  refine ⟨.int .i64 0, fun W hW => ?_, ?_⟩
  · go_simp
    refine (rchk_call hok hck2).mono fun e W2 hc2 => ⟨hc2.1, hW.go hc2.2⟩
  refine hK _ ?_
  clear hK K
  (try simp only [Act.put, List.setIfInBounds_toArray, List.set_cons_zero, List.set_cons_succ])
  refine wpQuiet_step_h hlq ?_
  clear hlq lq
  intro K lq hlq hK
  refine wanted_go (by rfl) ?_
  refine ⟨?_, fun W hW => ?_, ?_⟩
  rotate_left
  · obtain ⟨q1, q2, q3⟩ := BoxP.run hW.2.1.2.1 hok.1
    go_simp
    with_reducible rfl
  refine hK _ ?_
  clear hK K
  (try simp only [Act.put, List.setIfInBounds_toArray, List.set_cons_zero, List.set_cons_succ])
  refine wpQuiet_step_h hlq ?_
  clear hlq lq
  intro K lq hlq hK
  refine wanted_go (by rfl) ?_
  refine ⟨?_, fun W hW => ?_, ?_⟩
  rotate_left
  · obtain ⟨q1, q2, q3⟩ := BoxP.run hW.2.1.2.1 hok.1
    go_simp
    with_reducible rfl
  refine hK _ ?_
  clear hK K
  (try simp only [Act.put, List.setIfInBounds_toArray, List.set_cons_zero, List.set_cons_succ])
  refine wpQuiet_nil_h hlq ?_
  clear hlq lq
  intro W8 B8
  have hz8 := Lib.hid B8.2.1.1
  have hp8 := Lib.hid B8.2.1.2.1
  have bel9 := B8.1
  go_wp2_with (first | (refine wpList_load_mid rfl 55 (.tmp 11) rfl W5.heap.size 0 rfl (pCs r (n)) _ (row_load hp8.out) Tryz.underlying55 rfl (info55 hr.out _) ?_) | (refine wpList_store_row rfl 55 (.tmp 2) (.tmp 62) rfl w.heap.size (pCs r (n)).toArray rfl rfl 55 (pCs zeroA 0).toArray hz8.out (info55 hr.out _) (by rw [pCs_size zeroA_ok, pCs_size hr.out]) (pCs_one _ _) ?_))
  refine bodyPost_ret (v := .tuple #[vPf ⟨r, n⟩, .int .i64 0]) ?_ rfl ⟨rfl, below_row bel9 (Nat.le_refl _) _⟩
  exact results_cell_tmp rfl _ _ rfl (BoxP.run (p := ⟨r, n⟩) (setRow_heap _ _ _ _ _ _ hz8.out) hok.1).2.2 rfl
set_option maxRecDepth 100000 in
set_option maxHeartbeats 1600000 in
theorem rpp_x_nodec {w : World} {s L R : ByteArray} (hs : s.size < 4294967281) (hc2 : cutB 47 s = [L, R])  (hq4 : quadS L = none) (hc6 : colS L = none) : Calls Tryz.prog 61 #[.string s] w fun e w' => e = .returned (.tuple #[vPf zeroP, .int .i64 20]) ∧ Below w.heap.size w w' := by
  have bel0 : Below w.heap.size w (w.alloc (oP zeroP)) := (Below.refl _ _).alloc (Nat.le_refl _) _
  have hz0 := Lib.hid (box1 w (oP zeroP))
  have hcut : ∀ W : World, Calls Tryz.prog 100 #[.string s, .int .u8 47] W fun e w' => (∃ v, e = .returned v ∧ w'.ownsRow 0 9 1 v 2 (strs [L, R]) ∧ Lo W.heap.size v) ∧ Below W.heap.size W w' := fun W => by
    have := cut100_any (w := W) hs 47
    rw [hc2] at this; exact this
  have hLs : L.size ≤ s.size := piece_size2 (c := 47) (by rw [hc2]; exact List.mem_cons_self ..)
  obtain ⟨q, hqz⟩ : ∃ q, zeroA = q := ⟨_, rfl⟩
  have h4 : ∀ W, Calls Tryz.prog 103 #[.string L] W fun e w' => e = .returned (.tuple #[.agg (nums .u8 q).toArray, .bool false]) ∧ Below W.heap.size W w' := fun W => by
    have := four_any (w := W) (s := L) (by omega)
    unfold QuadR at this; rw [hq4] at this; rw [← hqz]; exact this
  have hq : Hid (isA q) := Lib.hid (by rw [← hqz]; exact zeroA_ok)
  clear hqz
  obtain ⟨r, hrz⟩ : ∃ r, zeroA = r := ⟨_, rfl⟩
  have h6 : ∀ W, Calls Tryz.prog 104 #[.string L] W fun e w' => e = .returned (.tuple #[.agg (nums .u8 r).toArray, .bool false]) ∧ Below W.heap.size W w' := fun W => by
    have := six_any (w := W) (s := L) (by omega)
    unfold QuadR at this; rw [hc6] at this; rw [← hrz]; exact this
  have hr : Hid (isA r) := Lib.hid (by rw [← hrz]; exact zeroA_ok)
  clear hrz
  obtain ⟨n', b', hnb⟩ : ∃ n' b', DecF R 3 = .tuple #[.int .i64 n', .bool b'] := ⟨_, _, rfl⟩
  have hd := fun W => dec118_any (w := W) R (most := 3) (by decide)
  rw [hnb] at hd
  clear hnb
  clear hc2 hLs hs hq4 hc6
  go_enter Tryz.func61, Tryz.ntmps61
  go_wp2_with (first | (go_at_call 100; refine (hcut _).mono ?_; clear hcut; rintro e w1 ⟨⟨v, rfl, hrow, low⟩, bel1⟩; obtain ⟨A, c2, rfl, hc1, hc2'⟩ := own_slice hrow; obtain ⟨k, rfl, -, hkl, hcell, -, -⟩ := own_at hrow (by decide); have bel01 := bel0.trans (bel1.mono bel0.size); have hz1 := Lib.hid (Below.box hz0.out bel1 (lt_of_obj hz0.out)); have l0 : w1.cell? ⟨k, 0, none⟩ = some (.string L) := hcell 0 _ rfl; have l1 : w1.cell? ⟨k, 1, none⟩ = some (.string R) := hcell 1 _ rfl; clear hrow low hcell) | (go_at_call 103; refine (h4 _).mono ?_; clear h4; rintro e w2 ⟨rfl, bel2⟩; have m0 := (Below.cell (p := ⟨k, 0, none⟩) bel2 hkl).trans l0; have m1 := (Below.cell (p := ⟨k, 1, none⟩) bel2 hkl).trans l1; have hz2 := Lib.hid (Below.box hz1.out bel2 (lt_of_obj hz1.out)); have bel02 := bel01.trans (bel2.mono bel01.size); have bA : Below w2.heap.size w2 (w2.alloc (oA q)) := (Below.refl _ _).alloc (Nat.le_refl _) _; have hkl2 := Nat.lt_of_lt_of_le hkl bel2.size; have n0 := (Below.cell (p := ⟨k, 0, none⟩) bA hkl2).trans m0; have n1 := (Below.cell (p := ⟨k, 1, none⟩) bA hkl2).trans m1; have hz3 := Lib.hid (Below.box hz2.out bA (lt_of_obj hz2.out)); have hq3 := Lib.hid (box1 w2 (oA q)); have bel03 := bel02.trans (bA.mono bel02.size); unfold oA at n0 n1; clear l0 l1 m0 m1) | (refine wpList_store_new rfl 42 (.tmp 5) (.tmp 23) rfl rfl rfl (info42 hq.out) (by rw [sizeA hq.out]; rfl) (numsA_one _) ?_) | (go_at_call 104; refine (h6 _).mono ?_; clear h6; rintro e w4 ⟨rfl, bel4⟩; have bel04 := bel03.trans (bel4.mono bel03.size); have hkl4 := Nat.lt_of_lt_of_le hkl2 bA.size; have o1 := (Below.cell (p := ⟨k, 1, none⟩) bel4 hkl4).trans n1; have hz4 := Lib.hid (Below.box hz3.out bel4 (lt_of_obj hz3.out)); have hq4 := Lib.hid (Below.box hq3.out bel4 (lt_of_obj hq3.out)); have fS := Lib.hid (fr_row w4 w2.heap.size (nums .u8 r).toArray); have hkn : k ≠ w2.heap.size := (by omega); have hzn : w.heap.size ≠ w2.heap.size := (by have := bel02.size; have := lt_of_obj hz2.out; omega); have hq5 := Lib.hid (setRow_heap w4 w2.heap.size _ _ _ _ hq4.out : (w4.setRow w2.heap.size (nums .u8 r).toArray).heap[w2.heap.size]? = some (oA r)); have p1 := fS.out.cell o1 hkn; have hz5 := Lib.hid (fS.out.obj hz4.out hzn); have bel05 := bel04.trans (fS.out.belowS (fun b hb => by rw [hb]; exact bel02.size) bel04.size)) | (refine wpList_store_row rfl 42 (.tmp 5) (.tmp 32) rfl w2.heap.size (nums .u8 r).toArray rfl rfl 42 (nums .u8 q).toArray hq4.out (info42 hr.out) (by rw [sizeA hq.out, sizeA hr.out]) (numsA_one _) ?_) | (go_at_call 118; refine (hd _).mono ?_; clear hd; rintro e w6 ⟨rfl, hw⟩; replace hw := hw.symm; subst hw) | (refine wpList_store_row rfl 55 (.tmp 2) (.tmp 47) rfl w.heap.size (pCs zeroA 0).toArray rfl rfl 55 (pCs zeroA 0).toArray hz5.out (info55 zeroA_ok _) rfl (pCs_one _ _) ?_))
  refine bodyPost_ret (v := .tuple #[vPf zeroP, .int .i64 20]) ?_ rfl ⟨rfl, below_row bel05 (Nat.le_refl _) _⟩
  exact results_cell_tmp rfl _ _ rfl (BoxP.run (p := zeroP) (setRow_heap _ _ _ _ _ _ hz5.out) zeroA_ok).2.2 rfl
end Go.Proofs.YtnljjlaececnkaaGreatDoor
/-
  The document's ParsePrefix, whole: it answers as parsePS. Condition: a text is no longer than the program's bound.
-/
namespace Go.Proofs.YtnljjlaececnkaaGreatDoor
open Go.RowKit
set_option linter.unusedVariables false
set_option linter.unusedSimpArgs false
theorem decFrom_up : ∀ (l : List UInt8) (acc n : Nat), Lib.decFrom acc l = some n → n < (acc + 1) * 10 ^ l.length
  | [], acc, n, h => by
    simp only [Lib.decFrom, Option.some.injEq] at h
    simp only [List.length_nil, Nat.pow_zero]
    omega
  | c :: l, acc, n, h => by
    by_cases hc : 48 ≤ c.toNat ∧ c.toNat ≤ 57
    · simp only [Lib.decFrom, Lib.digitVal, if_pos hc] at h
      have := decFrom_up l _ n h
      simp only [List.length_cons, Nat.pow_succ]
      have h2 : (acc * 10 + (c.toNat - 48) + 1) * 10 ^ l.length ≤ ((acc + 1) * 10) * 10 ^ l.length := Nat.mul_le_mul_right _ (by omega)
      rw [Nat.mul_assoc, Nat.mul_comm 10] at h2
      exact Nat.lt_of_lt_of_le (by first | exact this | (rw [Nat.mul_comm 10 acc] at this; exact this)) h2
    · simp only [Lib.decFrom, Lib.digitVal, if_neg hc] at h
      cases h
theorem decF_range {l : List UInt8} {n : Int} (h : decF l 3 = some n) : 0 ≤ n ∧ n ≤ 1000 := by
  unfold decF at h
  split at h
  · cases h
  · rename_i hn
    cases hd : Lib.decFrom 0 l with
    | none => rw [hd] at h; cases h
    | some m =>
      rw [hd] at h
      have hnm : n = (m : Int) := by simpa using h.symm
      subst hnm
      have := decFrom_up l 0 m hd
      have h3 : 10 ^ l.length ≤ 10 ^ 3 := Nat.pow_le_pow_right (by decide) (by have : ¬ ((3 : Int) < l.length) := fun h => hn (.inr (.inl h)); omega)
      omega
theorem chk_long {p : Pf} (h : 128 < p.n) : chk p = false := by
  unfold chk
  rw [show decide (p.n ≤ 128) = false from decide_eq_false (by omega)]
  simp
theorem rpp_any {w : World} {s : ByteArray} (hs : s.size < 4294967281) : Calls Tryz.prog 61 #[.string s] w fun e w' => e = .returned (PPV s) ∧ Below w.heap.size w w' := by
  rcases slash_cases s with ⟨L, R, hc2, hcut⟩ | ⟨h2, hres⟩
  · have hL : (⟨L.data.toList.toArray⟩ : ByteArray) = L := rfl
    have hR : (⟨R.data.toList.toArray⟩ : ByteArray) = R := rfl
    have hF : decS R 3 = decF R.data.toList 3 := decS_F (by decide)
    unfold PPV
    cases hdn : decF R.data.toList 3 with
    | none =>
      rw [raw_none hcut (by rw [hR, hF, hdn])]
      cases hq : quadS L with
      | some q => exact rpp_q_nodec hs hc2 hq hdn
      | none => cases hc : colS L with
        | some r => exact rpp_c_nodec hs hc2 hq hc hdn
        | none => exact rpp_x_nodec hs hc2 hq hc
    | some n =>
      obtain ⟨h0, h1⟩ := decF_range hdn
      have hd : decS ⟨R.data.toList.toArray⟩ 3 = some n := by rw [hR, hF, hdn]
      cases hq : quadS L with
      | some q =>
        rw [raw_q hcut hd (by rw [hL]; exact hq)]
        have hok : (⟨q, 96 + n⟩ : Pf).ok := ⟨quadS_ok hq, wf_i64 ⟨by show _ ≤ 96 + n; omega, by show 96 + n ≤ _; omega⟩⟩
        by_cases hlo : n ≤ 32
        · cases hck : chk ⟨q, 96 + n⟩ with
          | true => exact rpp_q_yes hs hc2 hq hdn h0 h1 hlo hok hck
          | false => exact rpp_q_nochk hs hc2 hq hdn h0 h1 hlo hok hck
        · rw [chk_long (p := ⟨q, 96 + n⟩) (by show 128 < 96 + n; omega)]
          exact rpp_q_long hs hc2 hq hdn h0 h1 (by omega)
      | none => cases hc : colS L with
        | some r =>
          rw [raw_c hcut hd (by rw [hL]; exact hq) (by rw [hL]; exact hc)]
          have hok : (⟨r, n⟩ : Pf).ok := ⟨colS_ok hc, wf_i64 ⟨by show _ ≤ n; omega, by show n ≤ _; omega⟩⟩
          by_cases hlo : n ≤ 128
          · cases hck : chk ⟨r, n⟩ with
            | true => exact rpp_c_yes hs hc2 hq hc hdn h0 h1 hlo hok hck
            | false => exact rpp_c_nochk hs hc2 hq hc hdn h0 h1 hlo hok hck
          · rw [chk_long (p := ⟨r, n⟩) (by show 128 < n; omega)]
            exact rpp_c_long hs hc2 hq hc hdn h0 h1 (by omega)
        | none =>
          rw [raw_no hcut hd (by rw [hL]; exact hq) (by rw [hL]; exact hc)]
          exact rpp_x_nodec hs hc2 hq hc
  · exact rpp_not hs h2 hres
end Go.Proofs.YtnljjlaececnkaaGreatDoor
/-
  The walk of AddrPrefixes. Condition: the variables hold what their initialisers laid.
-/
namespace Go.Proofs.YtnljjlaececnkaaGreatDoor
open Go.RowKit
set_option linter.unusedVariables false
set_option linter.unusedSimpArgs false
theorem parsePS_fit (s : ByteArray) : (parsePS s).1.ok := by
  unfold parsePS
  split
  · rename_i p hp
    split
    · unfold rawS at hp
      split at hp
      rename_i l r g hcut
      split at hp
      · rename_i n hn
        rw [decS_F (by decide)] at hn
        obtain ⟨n0, n1⟩ := decF_range hn
        split at hp
        · rename_i a ha
          cases hp
          exact ⟨quadS_ok ha, wf_i64 ⟨by simp; omega, by simp; omega⟩⟩
        · split at hp
          · rename_i a ha
            cases hp
            exact ⟨colS_ok ha, wf_i64 ⟨by simp; omega, by simp; omega⟩⟩
          · cases hp
      · cases hp
    · exact zeroP_ok
  · exact zeroP_ok
set_option maxRecDepth 100000 in
set_option maxHeartbeats 1600000 in
theorem prefixes_long {s : ByteArray} {p q : Pf} {a : List Int} {n : Int} (hs : 5000 < s.size) (hp : p.ok) (hq : q.ok) (ha : isA a) {w : World} (E : Env w) : Calls Tryz.prog 14 #[.string s, vPf p, vPf q, vA a, .int .i64 n] w fun e w' => e = .returned (.bool true) ∧ Below w.heap.size w w' := by
  have B := ((((Bz.start w).alloc (oP p) (g := w.heap.size) rfl).alloc (oP q) (g := w.heap.size + 1) (by simp)).alloc (oA a) (g := w.heap.size + 2) (by simp) : Bz w [(w.heap.size + 2, oA a), (w.heap.size + 1, oP q), (w.heap.size, oP p)] _)
  have E1 := B.env E
  have Ha := Lib.hid ha
  have Hp := Lib.hid hp
  have Hq := Lib.hid hq
  clear ha hp hq
  unfold vA vPf
  go_enter Tryz.func14, Tryz.ntmps14
  go_wp2_with (go_at_call 28; refine (live02_any E1).mono ?_; rintro e w1 ⟨rfl, bel⟩)
  go_ret
  exact ⟨rfl, (B.go bel).bel⟩
set_option maxRecDepth 100000 in
set_option maxHeartbeats 3200000 in
theorem prefixes_run {s : ByteArray} {p q r y z : Pf} {a : List Int} {n e f c g i1 i2 : Int} {b1 b2 : Bool} {t : List UInt8} (hs : s.size ≤ 5000) (hp : p.ok) (hq : q.ok) (ha : isA a) (hr : r.ok) (hy : y.ok) (hz : z.ok) (hpr : parsePS s = (r, e)) (hyo : okP (ofP a n) = y) (hyf : (if (ofP a n).isSome then (0 : Int) else 2) = f) (hc : (if chk p then (0 : Int) else 21) = c) (hg : pfam p = g) (hza : anyP n = z) (ht : pfxS p = t) (h1 : cont p a = b1) (h2 : cov p q = b2) (h3 : cmpP p q = i1) (h4 : cmpA p.a a = i2) {w : World} (E : Env w) : Calls Tryz.prog 14 #[.string s, vPf p, vPf q, vA a, .int .i64 n] w fun e w' => e = .returned (.bool true) ∧ Below w.heap.size w w' := by
  have B := ((((Bz.start w).alloc (oP p) (g := w.heap.size) rfl).alloc (oP q) (g := w.heap.size + 1) (by simp)).alloc (oA a) (g := w.heap.size + 2) (by simp) : Bz w [(w.heap.size + 2, oA a), (w.heap.size + 1, oP q), (w.heap.size, oP p)] _)
  have hR : ∀ W, (binOp .neq 55 (vPf r) (vPf r)).run Tryz.prog W = .ok (.bool false) W := fun W => by rw [neq_P W hr hr, decide_eq_true rfl]; rfl
  have hY : ∀ W, (binOp .neq 55 (vPf y) (vPf y)).run Tryz.prog W = .ok (.bool false) W := fun W => by rw [neq_P W hy hy, decide_eq_true rfl]; rfl
  have hZ : ∀ W, (binOp .neq 55 (vPf z) (vPf z)).run Tryz.prog W = .ok (.bool false) W := fun W => by rw [neq_P W hz hz, decide_eq_true rfl]; rfl
  have c1 : ∀ {W : World}, Env W → Calls Tryz.prog 56 #[.string s] W fun e' w' => e' = .returned (.tuple #[vPf r, .int .i64 e]) ∧ Below W.heap.size W w' := fun E => (pp_any E (by omega)).mono fun e' w' h => ⟨by have := h.1; unfold PPR at this; rw [this, hpr], h.2⟩
  have c2 : ∀ {W : World}, Calls Tryz.prog 61 #[.string s] W fun e' w' => e' = .returned (.tuple #[vPf r, .int .i64 e]) ∧ Below W.heap.size W w' := (rpp_any (by omega)).mono fun e' w' h => ⟨by have := h.1; unfold PPV at this; rw [this, hpr], h.2⟩
  have c3 : ∀ {W : World}, Calls Tryz.prog 53 #[vA a, .int .i64 n] W fun e' w' => e' = .returned (.tuple #[vPf y, .int .i64 f]) ∧ Below W.heap.size W w' := (of_any ha n).mono fun e' w' h => ⟨by have := h.1; unfold OfR at this; rw [this, hyo, hyf], h.2⟩
  have c4 : ∀ {W : World}, Calls Tryz.prog 62 #[vA a, .int .i64 n] W fun e' w' => e' = .returned (.tuple #[vPf y, .int .i64 f]) ∧ Below W.heap.size W w' := (rof_any ha n).mono fun e' w' h => ⟨by have := h.1; unfold OfR at this; rw [this, hyo, hyf], h.2⟩
  have c5 : ∀ {W : World}, Calls Tryz.prog 38 #[vPf p] W fun e' w' => e' = .returned (.int .i64 c) ∧ Below W.heap.size W w' := (check_any hp).mono fun e' w' h => ⟨by have := h.1; unfold errP at this; rw [this, hc], h.2⟩
  have c6 : ∀ {W : World}, Calls Tryz.prog 63 #[vPf p] W fun e' w' => e' = .returned (.int .i64 c) ∧ Below W.heap.size W w' := rchk_call hp hc
  have c7 : ∀ {W : World}, Calls Tryz.prog 54 #[vPf p] W fun e' w' => e' = .returned (.int .i64 g) ∧ Below W.heap.size W w' := (pfam_any hp).mono fun e' w' h => ⟨by rw [h.1, hg], h.2⟩
  have c8 : ∀ {W : World}, Calls Tryz.prog 64 #[vPf p] W fun e' w' => e' = .returned (.int .i64 g) ∧ Below W.heap.size W w' := rpfam_call hp hg
  have c9 : ∀ {W : World}, Calls Tryz.prog 55 #[.int .i64 n] W fun e' w' => e' = .returned (vPf z) ∧ Below W.heap.size W w' := (any_any n).mono fun e' w' h => ⟨by rw [h.1, hza], h.2⟩
  have c10 : ∀ {W : World}, Calls Tryz.prog 65 #[.int .i64 n] W fun e' w' => e' = .returned (vPf z) ∧ Below W.heap.size W w' := (rany_any n).mono fun e' w' h => ⟨by rw [h.1, hza], h.2⟩
  have c11 : ∀ {W : World}, Env W → Calls Tryz.prog 57 #[vPf p] W fun e' w' => e' = .returned (.string ⟨t.toArray⟩) ∧ Below W.heap.size W w' := fun E => (pfx_any E hp).mono fun e' w' h => ⟨by rw [h.1, ht], h.2⟩
  have c12 : ∀ {W : World}, Calls Tryz.prog 66 #[vPf p] W fun e' w' => e' = .returned (.string ⟨t.toArray⟩) ∧ Below W.heap.size W w' := (rpfx_any hp).mono fun e' w' h => ⟨by rw [h.1, ht], h.2⟩
  have c13 : ∀ {W : World}, Calls Tryz.prog 39 #[vPf p, vA a] W fun e' w' => e' = .returned (.bool b1) ∧ Below W.heap.size W w' := (cont_any hp ha).mono fun e' w' h => ⟨by rw [h.1, h1], h.2⟩
  have c14 : ∀ {W : World}, Calls Tryz.prog 67 #[vPf p, vA a] W fun e' w' => e' = .returned (.bool b1) ∧ Below W.heap.size W w' := (rcont_any hp ha).mono fun e' w' h => ⟨by rw [h.1, h1], h.2⟩
  have c15 : ∀ {W : World}, Calls Tryz.prog 40 #[vPf p, vPf q] W fun e' w' => e' = .returned (.bool b2) ∧ Below W.heap.size W w' := (cov_any hp hq).mono fun e' w' h => ⟨by rw [h.1, h2], h.2⟩
  have c16 : ∀ {W : World}, Calls Tryz.prog 68 #[vPf p, vPf q] W fun e' w' => e' = .returned (.bool b2) ∧ Below W.heap.size W w' := (rcov_any hp hq).mono fun e' w' h => ⟨by rw [h.1, h2], h.2⟩
  have c17 : ∀ {W : World}, Calls Tryz.prog 42 #[vPf p, vPf q] W fun e' w' => e' = .returned (.int .i64 i1) ∧ Below W.heap.size W w' := (cmpP_any hp hq).mono fun e' w' h => ⟨by rw [h.1, h3], h.2⟩
  have c18 : ∀ {W : World}, Calls Tryz.prog 69 #[vPf p, vPf q] W fun e' w' => e' = .returned (.int .i64 i1) ∧ Below W.heap.size W w' := (rcmpP_any hp hq).mono fun e' w' h => ⟨by rw [h.1, h3], h.2⟩
  have c19 : ∀ {W : World}, Calls Tryz.prog 43 #[vA p.a, vA a] W fun e' w' => e' = .returned (.int .i64 i2) ∧ Below W.heap.size W w' := (cmp_any hp.1 ha).mono fun e' w' h => ⟨by rw [h.1, h4], h.2⟩
  have c20 : ∀ {W : World}, Calls Tryz.prog 70 #[vA p.a, vA a] W fun e' w' => e' = .returned (.int .i64 i2) ∧ Below W.heap.size W w' := (rcmp_any hp.1 ha).mono fun e' w' h => ⟨by rw [h.1, h4], h.2⟩
  have Ha := Lib.hid ha
  have Hp := Lib.hid hp
  have Hq := Lib.hid hq
  have Hr := Lib.hid hr
  have Hy := Lib.hid hy
  clear ha hp hq hr hy hz hpr hyo hyf hc hg hza ht h1 h2 h3 h4
  unfold vA vPf
  go_enter Tryz.func14, Tryz.ntmps14
  go_wp2_with (refine wpList_quiet_take (C := Bz w [(w.heap.size + 2, oA a), (w.heap.size + 1, oP q), (w.heap.size, oP p)]) 7 4 (by rfl) B ?_)
  (try simp only [List.take_succ_cons, List.take_zero, List.drop_succ_cons, List.drop_zero])
  refine wpQuiet_hide ?_
  intro lq hlq
  refine wpQuiet_step_h hlq ?_
  clear hlq lq
  intro K lq hlq hK
  refine wanted_go (by rfl) ?_
  refine ⟨.tuple #[vPf r, .int .i64 e], fun W hW => ?_, ?_⟩
  · go_simp
    have E' := hW.env E
    exact (c1 E').mono fun e W2 hc2 => ⟨hc2.1, hW.go hc2.2⟩
  refine hK _ ?_
  clear hK K
  (try simp only [Act.put, List.setIfInBounds_toArray, List.set_cons_zero, List.set_cons_succ])
  refine wpQuiet_step_h hlq ?_
  clear hlq lq
  intro K lq hlq hK
  refine wanted_go (by rfl) ?_
  refine ⟨?_, fun W hW => ?_, ?_⟩
  rotate_left
  · skip
    go_simp
    with_reducible rfl
  refine hK _ ?_
  clear hK K
  (try simp only [Act.put, List.setIfInBounds_toArray, List.set_cons_zero, List.set_cons_succ])
  refine wpQuiet_step_h hlq ?_
  clear hlq lq
  intro K lq hlq hK
  refine wanted_go (by rfl) ?_
  refine ⟨?_, fun W hW => ?_, ?_⟩
  rotate_left
  · skip
    go_simp
    with_reducible rfl
  refine hK _ ?_
  clear hK K
  (try simp only [Act.put, List.setIfInBounds_toArray, List.set_cons_zero, List.set_cons_succ])
  refine wpQuiet_step_h hlq ?_
  clear hlq lq
  intro K lq hlq hK
  refine wanted_go (by rfl) ?_
  refine ⟨?_, fun W hW => ?_, ?_⟩
  rotate_left
  · skip
    go_simp
    with_reducible rfl
  refine hK _ ?_
  clear hK K
  (try simp only [Act.put, List.setIfInBounds_toArray, List.set_cons_zero, List.set_cons_succ])
  refine wpQuiet_nil_h hlq ?_
  clear hlq lq B
  intro V1 hV2
  refine wpList_new rfl rfl rfl rfl z55 rfl (by rfl) (by rfl) (info55 Hr.out.1 _) (sizeP' Hr.out) (pCs_one _ _) ?_
  (try simp only [Act.put, List.setIfInBounds_toArray, List.set_cons_zero, List.set_cons_succ])
  have hB3 : Bz w [(V1.heap.size, oP r), (w.heap.size + 2, oA a), (w.heap.size + 1, oP q), (w.heap.size, oP p)] (V1.alloc (oP r)) := hV2.alloc (oP r) rfl
  clear hV2
  refine wpList_quiet (C := Bz w [(V1.heap.size, oP r), (w.heap.size + 2, oA a), (w.heap.size + 1, oP q), (w.heap.size, oP p)]) 1 (by rfl) hB3 ?_
  refine wpQuiet_hide ?_
  intro lq hlq
  refine wpQuiet_step_h hlq ?_
  clear hlq lq
  intro K lq hlq hK
  refine wanted_go (by rfl) ?_
  refine ⟨?_, fun W hW => ?_, ?_⟩
  rotate_left
  · skip
    go_simp
    with_reducible rfl
  refine hK _ ?_
  clear hK K
  (try simp only [Act.put, List.setIfInBounds_toArray, List.set_cons_zero, List.set_cons_succ])
  refine wpQuiet_nil_h hlq ?_
  clear hlq lq hB3
  intro V4 hV5
  go_wp2_with (refine wpList_quiet_take (C := Bz w [(V1.heap.size, oP r), (w.heap.size + 2, oA a), (w.heap.size + 1, oP q), (w.heap.size, oP p)]) 7 4 (by rfl) hV5 ?_)
  (try simp only [List.take_succ_cons, List.take_zero, List.drop_succ_cons, List.drop_zero])
  refine wpQuiet_hide ?_
  intro lq hlq
  refine wpQuiet_step_h hlq ?_
  clear hlq lq
  intro K lq hlq hK
  refine wanted_go (by rfl) ?_
  refine ⟨.tuple #[vPf r, .int .i64 e], fun W hW => ?_, ?_⟩
  · go_simp
    exact (c2).mono fun e W2 hc2 => ⟨hc2.1, hW.go hc2.2⟩
  refine hK _ ?_
  clear hK K
  (try simp only [Act.put, List.setIfInBounds_toArray, List.set_cons_zero, List.set_cons_succ])
  refine wpQuiet_step_h hlq ?_
  clear hlq lq
  intro K lq hlq hK
  refine wanted_go (by rfl) ?_
  refine ⟨?_, fun W hW => ?_, ?_⟩
  rotate_left
  · skip
    go_simp
    with_reducible rfl
  refine hK _ ?_
  clear hK K
  (try simp only [Act.put, List.setIfInBounds_toArray, List.set_cons_zero, List.set_cons_succ])
  refine wpQuiet_step_h hlq ?_
  clear hlq lq
  intro K lq hlq hK
  refine wanted_go (by rfl) ?_
  refine ⟨?_, fun W hW => ?_, ?_⟩
  rotate_left
  · skip
    go_simp
    with_reducible rfl
  refine hK _ ?_
  clear hK K
  (try simp only [Act.put, List.setIfInBounds_toArray, List.set_cons_zero, List.set_cons_succ])
  refine wpQuiet_step_h hlq ?_
  clear hlq lq
  intro K lq hlq hK
  refine wanted_go (by rfl) ?_
  refine ⟨?_, fun W hW => ?_, ?_⟩
  rotate_left
  · skip
    go_simp
    with_reducible rfl
  refine hK _ ?_
  clear hK K
  (try simp only [Act.put, List.setIfInBounds_toArray, List.set_cons_zero, List.set_cons_succ])
  refine wpQuiet_nil_h hlq ?_
  clear hlq lq hV5
  intro V6 hV7
  refine wpList_new rfl rfl rfl rfl z55 rfl (by rfl) (by rfl) (info55 Hr.out.1 _) (sizeP' Hr.out) (pCs_one _ _) ?_
  (try simp only [Act.put, List.setIfInBounds_toArray, List.set_cons_zero, List.set_cons_succ])
  have hB8 : Bz w [(V6.heap.size, oP r), (V1.heap.size, oP r), (w.heap.size + 2, oA a), (w.heap.size + 1, oP q), (w.heap.size, oP p)] (V6.alloc (oP r)) := hV7.alloc (oP r) rfl
  clear hV7
  refine wpList_quiet (C := Bz w [(V6.heap.size, oP r), (V1.heap.size, oP r), (w.heap.size + 2, oA a), (w.heap.size + 1, oP q), (w.heap.size, oP p)]) 1 (by rfl) hB8 ?_
  refine wpQuiet_hide ?_
  intro lq hlq
  refine wpQuiet_step_h hlq ?_
  clear hlq lq
  intro K lq hlq hK
  refine wanted_go (by rfl) ?_
  refine ⟨?_, fun W hW => ?_, ?_⟩
  rotate_left
  · skip
    go_simp
    with_reducible rfl
  refine hK _ ?_
  clear hK K
  (try simp only [Act.put, List.setIfInBounds_toArray, List.set_cons_zero, List.set_cons_succ])
  refine wpQuiet_nil_h hlq ?_
  clear hlq lq hB8
  intro V9 hV10
  go_wp2_with (refine wpList_quiet_take (C := Bz w [(V6.heap.size, oP r), (V1.heap.size, oP r), (w.heap.size + 2, oA a), (w.heap.size + 1, oP q), (w.heap.size, oP p)]) 9 6 (by rfl) hV10 ?_)
  (try simp only [List.take_succ_cons, List.take_zero, List.drop_succ_cons, List.drop_zero])
  refine wpQuiet_hide ?_
  intro lq hlq
  refine wpQuiet_step_h hlq ?_
  clear hlq lq
  intro K lq hlq hK
  refine wanted_go (by rfl) ?_
  refine ⟨vA a, fun W hW => ?_, ?_⟩
  · skip
    exact quiet_load 42 _ rfl rfl (ldA (hW.all.get 2 (x := (w.heap.size + 2, oA a)) rfl) Ha.out)
  refine hK _ ?_
  clear hK K
  (try simp only [Act.put, List.setIfInBounds_toArray, List.set_cons_zero, List.set_cons_succ])
  refine wpQuiet_step_h hlq ?_
  clear hlq lq
  intro K lq hlq hK
  refine wanted_go (by rfl) ?_
  refine ⟨?_, fun W hW => ?_, ?_⟩
  rotate_left
  · skip
    go_simp
    with_reducible rfl
  refine hK _ ?_
  clear hK K
  (try simp only [Act.put, List.setIfInBounds_toArray, List.set_cons_zero, List.set_cons_succ])
  refine wpQuiet_step_h hlq ?_
  clear hlq lq
  intro K lq hlq hK
  refine wanted_go (by rfl) ?_
  refine ⟨.tuple #[vPf y, .int .i64 f], fun W hW => ?_, ?_⟩
  · go_simp
    exact (c3).mono fun e W2 hc2 => ⟨hc2.1, hW.go hc2.2⟩
  refine hK _ ?_
  clear hK K
  (try simp only [Act.put, List.setIfInBounds_toArray, List.set_cons_zero, List.set_cons_succ])
  refine wpQuiet_step_h hlq ?_
  clear hlq lq
  intro K lq hlq hK
  refine wanted_go (by rfl) ?_
  refine ⟨?_, fun W hW => ?_, ?_⟩
  rotate_left
  · skip
    go_simp
    with_reducible rfl
  refine hK _ ?_
  clear hK K
  (try simp only [Act.put, List.setIfInBounds_toArray, List.set_cons_zero, List.set_cons_succ])
  refine wpQuiet_step_h hlq ?_
  clear hlq lq
  intro K lq hlq hK
  refine wanted_go (by rfl) ?_
  refine ⟨?_, fun W hW => ?_, ?_⟩
  rotate_left
  · skip
    go_simp
    with_reducible rfl
  refine hK _ ?_
  clear hK K
  (try simp only [Act.put, List.setIfInBounds_toArray, List.set_cons_zero, List.set_cons_succ])
  refine wpQuiet_step_h hlq ?_
  clear hlq lq
  intro K lq hlq hK
  refine wanted_go (by rfl) ?_
  refine ⟨?_, fun W hW => ?_, ?_⟩
  rotate_left
  · skip
    go_simp
    with_reducible rfl
  refine hK _ ?_
  clear hK K
  (try simp only [Act.put, List.setIfInBounds_toArray, List.set_cons_zero, List.set_cons_succ])
  refine wpQuiet_nil_h hlq ?_
  clear hlq lq hV10
  intro V11 hV12
  refine wpList_new rfl rfl rfl rfl z55 rfl (by rfl) (by rfl) (info55 Hy.out.1 _) (sizeP' Hy.out) (pCs_one _ _) ?_
  (try simp only [Act.put, List.setIfInBounds_toArray, List.set_cons_zero, List.set_cons_succ])
  have hB13 : Bz w [(V11.heap.size, oP y), (V6.heap.size, oP r), (V1.heap.size, oP r), (w.heap.size + 2, oA a), (w.heap.size + 1, oP q), (w.heap.size, oP p)] (V11.alloc (oP y)) := hV12.alloc (oP y) rfl
  clear hV12
  refine wpList_quiet (C := Bz w [(V11.heap.size, oP y), (V6.heap.size, oP r), (V1.heap.size, oP r), (w.heap.size + 2, oA a), (w.heap.size + 1, oP q), (w.heap.size, oP p)]) 1 (by rfl) hB13 ?_
  refine wpQuiet_hide ?_
  intro lq hlq
  refine wpQuiet_step_h hlq ?_
  clear hlq lq
  intro K lq hlq hK
  refine wanted_go (by rfl) ?_
  refine ⟨?_, fun W hW => ?_, ?_⟩
  rotate_left
  · skip
    go_simp
    with_reducible rfl
  refine hK _ ?_
  clear hK K
  (try simp only [Act.put, List.setIfInBounds_toArray, List.set_cons_zero, List.set_cons_succ])
  refine wpQuiet_nil_h hlq ?_
  clear hlq lq hB13
  intro V14 hV15
  go_wp2_with (refine wpList_quiet_take (C := Bz w [(V11.heap.size, oP y), (V6.heap.size, oP r), (V1.heap.size, oP r), (w.heap.size + 2, oA a), (w.heap.size + 1, oP q), (w.heap.size, oP p)]) 9 6 (by rfl) hV15 ?_)
  (try simp only [List.take_succ_cons, List.take_zero, List.drop_succ_cons, List.drop_zero])
  refine wpQuiet_hide ?_
  intro lq hlq
  refine wpQuiet_step_h hlq ?_
  clear hlq lq
  intro K lq hlq hK
  refine wanted_go (by rfl) ?_
  refine ⟨vA a, fun W hW => ?_, ?_⟩
  · skip
    exact quiet_load 42 _ rfl rfl (ldA (hW.all.get 3 (x := (w.heap.size + 2, oA a)) rfl) Ha.out)
  refine hK _ ?_
  clear hK K
  (try simp only [Act.put, List.setIfInBounds_toArray, List.set_cons_zero, List.set_cons_succ])
  refine wpQuiet_step_h hlq ?_
  clear hlq lq
  intro K lq hlq hK
  refine wanted_go (by rfl) ?_
  refine ⟨?_, fun W hW => ?_, ?_⟩
  rotate_left
  · skip
    go_simp
    with_reducible rfl
  refine hK _ ?_
  clear hK K
  (try simp only [Act.put, List.setIfInBounds_toArray, List.set_cons_zero, List.set_cons_succ])
  refine wpQuiet_step_h hlq ?_
  clear hlq lq
  intro K lq hlq hK
  refine wanted_go (by rfl) ?_
  refine ⟨.tuple #[vPf y, .int .i64 f], fun W hW => ?_, ?_⟩
  · go_simp
    exact (c4).mono fun e W2 hc2 => ⟨hc2.1, hW.go hc2.2⟩
  refine hK _ ?_
  clear hK K
  (try simp only [Act.put, List.setIfInBounds_toArray, List.set_cons_zero, List.set_cons_succ])
  refine wpQuiet_step_h hlq ?_
  clear hlq lq
  intro K lq hlq hK
  refine wanted_go (by rfl) ?_
  refine ⟨?_, fun W hW => ?_, ?_⟩
  rotate_left
  · skip
    go_simp
    with_reducible rfl
  refine hK _ ?_
  clear hK K
  (try simp only [Act.put, List.setIfInBounds_toArray, List.set_cons_zero, List.set_cons_succ])
  refine wpQuiet_step_h hlq ?_
  clear hlq lq
  intro K lq hlq hK
  refine wanted_go (by rfl) ?_
  refine ⟨?_, fun W hW => ?_, ?_⟩
  rotate_left
  · skip
    go_simp
    with_reducible rfl
  refine hK _ ?_
  clear hK K
  (try simp only [Act.put, List.setIfInBounds_toArray, List.set_cons_zero, List.set_cons_succ])
  refine wpQuiet_step_h hlq ?_
  clear hlq lq
  intro K lq hlq hK
  refine wanted_go (by rfl) ?_
  refine ⟨?_, fun W hW => ?_, ?_⟩
  rotate_left
  · skip
    go_simp
    with_reducible rfl
  refine hK _ ?_
  clear hK K
  (try simp only [Act.put, List.setIfInBounds_toArray, List.set_cons_zero, List.set_cons_succ])
  refine wpQuiet_nil_h hlq ?_
  clear hlq lq hV15
  intro V16 hV17
  refine wpList_new rfl rfl rfl rfl z55 rfl (by rfl) (by rfl) (info55 Hy.out.1 _) (sizeP' Hy.out) (pCs_one _ _) ?_
  (try simp only [Act.put, List.setIfInBounds_toArray, List.set_cons_zero, List.set_cons_succ])
  have hB18 : Bz w [(V16.heap.size, oP y), (V11.heap.size, oP y), (V6.heap.size, oP r), (V1.heap.size, oP r), (w.heap.size + 2, oA a), (w.heap.size + 1, oP q), (w.heap.size, oP p)] (V16.alloc (oP y)) := hV17.alloc (oP y) rfl
  clear hV17
  refine wpList_quiet (C := Bz w [(V16.heap.size, oP y), (V11.heap.size, oP y), (V6.heap.size, oP r), (V1.heap.size, oP r), (w.heap.size + 2, oA a), (w.heap.size + 1, oP q), (w.heap.size, oP p)]) 1 (by rfl) hB18 ?_
  refine wpQuiet_hide ?_
  intro lq hlq
  refine wpQuiet_step_h hlq ?_
  clear hlq lq
  intro K lq hlq hK
  refine wanted_go (by rfl) ?_
  refine ⟨?_, fun W hW => ?_, ?_⟩
  rotate_left
  · skip
    go_simp
    with_reducible rfl
  refine hK _ ?_
  clear hK K
  (try simp only [Act.put, List.setIfInBounds_toArray, List.set_cons_zero, List.set_cons_succ])
  refine wpQuiet_nil_h hlq ?_
  clear hlq lq hB18
  intro V19 hV20
  go_wp2_with fail
  refine wp_region_C (C := Bz w [(V16.heap.size, oP y), (V11.heap.size, oP y), (V6.heap.size, oP r), (V1.heap.size, oP r), (w.heap.size + 2, oA a), (w.heap.size + 1, oP q), (w.heap.size, oP p)]) (by kernel_rfl) (by kernel_rfl) (hV20.drew) ?_
  refine wpQuiet_hide ?_
  intro lq hlq
  refine wpQuiet_step_h hlq ?_
  clear hlq lq
  intro K lq hlq hK
  refine wanted_go (by rfl) ?_
  refine ⟨vPf r, fun W hW => ?_, ?_⟩
  · skip
    exact quiet_load 55 _ rfl rfl (ldP (hW.all.get 3 (x := (V1.heap.size, oP r)) rfl) Hr.out)
  refine hK _ ?_
  clear hK K
  (try simp only [Act.put, List.setIfInBounds_toArray, List.set_cons_zero, List.set_cons_succ])
  refine wpQuiet_step_h hlq ?_
  clear hlq lq
  intro K lq hlq hK
  refine wanted_go (by rfl) ?_
  refine ⟨vPf r, fun W hW => ?_, ?_⟩
  · skip
    exact quiet_load 55 _ rfl rfl (ldP (hW.all.get 2 (x := (V6.heap.size, oP r)) rfl) Hr.out)
  refine hK _ ?_
  clear hK K
  (try simp only [Act.put, List.setIfInBounds_toArray, List.set_cons_zero, List.set_cons_succ])
  refine wpQuiet_step_h hlq ?_
  clear hlq lq
  intro K lq hlq hK
  refine wanted_go (by rfl) ?_
  refine ⟨.bool false, fun W hW => ?_, ?_⟩
  · skip
    exact quiet_eq (.inr rfl) (by rfl) (by rfl) (by rfl) guard55 (hR W)
  refine hK _ ?_
  clear hK K
  (try simp only [Act.put, List.setIfInBounds_toArray, List.set_cons_zero, List.set_cons_succ])
  refine wpQuiet_step_h hlq ?_
  clear hlq lq
  intro K lq hlq hK
  refine wanted_go (by rfl) ?_
  refine ⟨?_, fun W hW => ?_, ?_⟩
  rotate_left
  · skip
    go_simp
    with_reducible rfl
  refine hK _ ?_
  clear hK K
  (try simp only [Act.put, List.setIfInBounds_toArray, List.set_cons_zero, List.set_cons_succ])
  refine wpQuiet_step_h hlq ?_
  clear hlq lq
  intro K lq hlq hK
  refine wanted_go (by rfl) ?_
  refine ⟨?_, fun W hW => ?_, ?_⟩
  rotate_left
  · skip
    go_simp
    with_reducible rfl
  refine hK _ ?_
  clear hK K
  (try simp only [Act.put, List.setIfInBounds_toArray, List.set_cons_zero, List.set_cons_succ])
  refine wpQuiet_step_h hlq ?_
  clear hlq lq
  intro K lq hlq hK
  refine wanted_go (by rfl) ?_
  refine ⟨.int .i64 e, fun W hW => ?_, ?_⟩
  · go_simp
    have E' := hW.env E
    exact (num_lit _).mono fun e W2 hc2 => ⟨hc2.1, hW.go hc2.2⟩
  refine hK _ ?_
  clear hK K
  (try simp only [Act.put, List.setIfInBounds_toArray, List.set_cons_zero, List.set_cons_succ])
  refine wpQuiet_step_h hlq ?_
  clear hlq lq
  intro K lq hlq hK
  refine wanted_go (by rfl) ?_
  refine ⟨?_, fun W hW => ?_, ?_⟩
  rotate_left
  · skip
    go_simp
    with_reducible rfl
  refine hK _ ?_
  clear hK K
  (try simp only [Act.put, List.setIfInBounds_toArray, List.set_cons_zero, List.set_cons_succ])
  refine wpQuiet_step_h hlq ?_
  clear hlq lq
  intro K lq hlq hK
  refine wanted_go (by rfl) ?_
  refine ⟨?_, fun W hW => ?_, ?_⟩
  rotate_left
  · skip
    go_simp
    with_reducible rfl
  refine hK _ ?_
  clear hK K
  (try simp only [Act.put, List.setIfInBounds_toArray, List.set_cons_zero, List.set_cons_succ])
  refine wpQuiet_step_h hlq ?_
  clear hlq lq
  intro K lq hlq hK
  refine wanted_go (by rfl) ?_
  refine ⟨?_, fun W hW => ?_, ?_⟩
  rotate_left
  · skip
    go_simp
    with_reducible rfl
  refine hK _ ?_
  clear hK K
  (try simp only [Act.put, List.setIfInBounds_toArray, List.set_cons_zero, List.set_cons_succ])
  refine wpQuiet_step_h hlq ?_
  clear hlq lq
  intro K lq hlq hK
  refine wanted_go (by rfl) ?_
  refine ⟨?_, fun W hW => ?_, ?_⟩
  rotate_left
  · skip
    go_simp
    with_reducible rfl
  refine hK _ ?_
  clear hK K
  (try simp only [Act.put, List.setIfInBounds_toArray, List.set_cons_zero, List.set_cons_succ])
  refine wpQuiet_step_h hlq ?_
  clear hlq lq
  intro K lq hlq hK
  refine wanted_go (by rfl) ?_
  refine ⟨vPf y, fun W hW => ?_, ?_⟩
  · skip
    exact quiet_load 55 _ rfl rfl (ldP (hW.all.get 1 (x := (V11.heap.size, oP y)) rfl) Hy.out)
  refine hK _ ?_
  clear hK K
  (try simp only [Act.put, List.setIfInBounds_toArray, List.set_cons_zero, List.set_cons_succ])
  refine wpQuiet_step_h hlq ?_
  clear hlq lq
  intro K lq hlq hK
  refine wanted_go (by rfl) ?_
  refine ⟨vPf y, fun W hW => ?_, ?_⟩
  · skip
    exact quiet_load 55 _ rfl rfl (ldP (hW.all.get 0 (x := (V16.heap.size, oP y)) rfl) Hy.out)
  refine hK _ ?_
  clear hK K
  (try simp only [Act.put, List.setIfInBounds_toArray, List.set_cons_zero, List.set_cons_succ])
  refine wpQuiet_step_h hlq ?_
  clear hlq lq
  intro K lq hlq hK
  refine wanted_go (by rfl) ?_
  refine ⟨.bool false, fun W hW => ?_, ?_⟩
  · skip
    exact quiet_eq (.inr rfl) (by rfl) (by rfl) (by rfl) guard55 (hY W)
  refine hK _ ?_
  clear hK K
  (try simp only [Act.put, List.setIfInBounds_toArray, List.set_cons_zero, List.set_cons_succ])
  refine wpQuiet_step_h hlq ?_
  clear hlq lq
  intro K lq hlq hK
  refine wanted_go (by rfl) ?_
  refine ⟨?_, fun W hW => ?_, ?_⟩
  rotate_left
  · skip
    go_simp
    with_reducible rfl
  refine hK _ ?_
  clear hK K
  (try simp only [Act.put, List.setIfInBounds_toArray, List.set_cons_zero, List.set_cons_succ])
  refine wpQuiet_step_h hlq ?_
  clear hlq lq
  intro K lq hlq hK
  refine wanted_go (by rfl) ?_
  refine ⟨?_, fun W hW => ?_, ?_⟩
  rotate_left
  · skip
    go_simp
    with_reducible rfl
  refine hK _ ?_
  clear hK K
  (try simp only [Act.put, List.setIfInBounds_toArray, List.set_cons_zero, List.set_cons_succ])
  refine wpQuiet_step_h hlq ?_
  clear hlq lq
  intro K lq hlq hK
  refine wanted_go (by rfl) ?_
  refine ⟨?_, fun W hW => ?_, ?_⟩
  rotate_left
  · skip
    go_simp
    with_reducible rfl
  refine hK _ ?_
  clear hK K
  (try simp only [Act.put, List.setIfInBounds_toArray, List.set_cons_zero, List.set_cons_succ])
  refine wpQuiet_step_h hlq ?_
  clear hlq lq
  intro K lq hlq hK
  refine wanted_go (by rfl) ?_
  refine ⟨.int .i64 f, fun W hW => ?_, ?_⟩
  · go_simp
    have E' := hW.env E
    exact (num_lit _).mono fun e W2 hc2 => ⟨hc2.1, hW.go hc2.2⟩
  refine hK _ ?_
  clear hK K
  (try simp only [Act.put, List.setIfInBounds_toArray, List.set_cons_zero, List.set_cons_succ])
  refine wpQuiet_step_h hlq ?_
  clear hlq lq
  intro K lq hlq hK
  refine wanted_go (by rfl) ?_
  refine ⟨?_, fun W hW => ?_, ?_⟩
  rotate_left
  · skip
    go_simp
    with_reducible rfl
  refine hK _ ?_
  clear hK K
  (try simp only [Act.put, List.setIfInBounds_toArray, List.set_cons_zero, List.set_cons_succ])
  refine wpQuiet_step_h hlq ?_
  clear hlq lq
  intro K lq hlq hK
  refine wanted_go (by rfl) ?_
  refine ⟨?_, fun W hW => ?_, ?_⟩
  rotate_left
  · skip
    go_simp
    with_reducible rfl
  refine hK _ ?_
  clear hK K
  (try simp only [Act.put, List.setIfInBounds_toArray, List.set_cons_zero, List.set_cons_succ])
  refine wpQuiet_step_h hlq ?_
  clear hlq lq
  intro K lq hlq hK
  refine wanted_go (by rfl) ?_
  refine ⟨?_, fun W hW => ?_, ?_⟩
  rotate_left
  · skip
    go_simp
    with_reducible rfl
  refine hK _ ?_
  clear hK K
  (try simp only [Act.put, List.setIfInBounds_toArray, List.set_cons_zero, List.set_cons_succ])
  refine wpQuiet_step_h hlq ?_
  clear hlq lq
  intro K lq hlq hK
  refine wanted_go (by rfl) ?_
  refine ⟨?_, fun W hW => ?_, ?_⟩
  rotate_left
  · skip
    go_simp
    with_reducible rfl
  refine hK _ ?_
  clear hK K
  (try simp only [Act.put, List.setIfInBounds_toArray, List.set_cons_zero, List.set_cons_succ])
  refine wpQuiet_step_h hlq ?_
  clear hlq lq
  intro K lq hlq hK
  refine wanted_go (by rfl) ?_
  refine ⟨vPf p, fun W hW => ?_, ?_⟩
  · skip
    exact quiet_load 55 _ rfl rfl (ldP (hW.all.get 6 (x := (w.heap.size, oP p)) rfl) Hp.out)
  refine hK _ ?_
  clear hK K
  (try simp only [Act.put, List.setIfInBounds_toArray, List.set_cons_zero, List.set_cons_succ])
  refine wpQuiet_step_h hlq ?_
  clear hlq lq
  intro K lq hlq hK
  refine wanted_go (by rfl) ?_
  refine ⟨.int .i64 c, fun W hW => ?_, ?_⟩
  · go_simp
    have E' := hW.env E
    exact (c5).mono fun e W2 hc2 => ⟨hc2.1, hW.go hc2.2⟩
  refine hK _ ?_
  clear hK K
  (try simp only [Act.put, List.setIfInBounds_toArray, List.set_cons_zero, List.set_cons_succ])
  refine wpQuiet_step_h hlq ?_
  clear hlq lq
  intro K lq hlq hK
  refine wanted_go (by rfl) ?_
  refine ⟨.int .i64 c, fun W hW => ?_, ?_⟩
  · go_simp
    have E' := hW.env E
    exact (num_lit _).mono fun e W2 hc2 => ⟨hc2.1, hW.go hc2.2⟩
  refine hK _ ?_
  clear hK K
  (try simp only [Act.put, List.setIfInBounds_toArray, List.set_cons_zero, List.set_cons_succ])
  refine wpQuiet_step_h hlq ?_
  clear hlq lq
  intro K lq hlq hK
  refine wanted_go (by rfl) ?_
  refine ⟨vPf p, fun W hW => ?_, ?_⟩
  · skip
    exact quiet_load 55 _ rfl rfl (ldP (hW.all.get 6 (x := (w.heap.size, oP p)) rfl) Hp.out)
  refine hK _ ?_
  clear hK K
  (try simp only [Act.put, List.setIfInBounds_toArray, List.set_cons_zero, List.set_cons_succ])
  refine wpQuiet_step_h hlq ?_
  clear hlq lq
  intro K lq hlq hK
  refine wanted_go (by rfl) ?_
  refine ⟨.int .i64 c, fun W hW => ?_, ?_⟩
  · go_simp
    have E' := hW.env E
    exact (c6).mono fun e W2 hc2 => ⟨hc2.1, hW.go hc2.2⟩
  refine hK _ ?_
  clear hK K
  (try simp only [Act.put, List.setIfInBounds_toArray, List.set_cons_zero, List.set_cons_succ])
  refine wpQuiet_step_h hlq ?_
  clear hlq lq
  intro K lq hlq hK
  refine wanted_go (by rfl) ?_
  refine ⟨?_, fun W hW => ?_, ?_⟩
  rotate_left
  · skip
    go_simp
    with_reducible rfl
  refine hK _ ?_
  clear hK K
  (try simp only [Act.put, List.setIfInBounds_toArray, List.set_cons_zero, List.set_cons_succ])
  refine wpQuiet_step_h hlq ?_
  clear hlq lq
  intro K lq hlq hK
  refine wanted_go (by rfl) ?_
  refine ⟨?_, fun W hW => ?_, ?_⟩
  rotate_left
  · skip
    go_simp
    with_reducible rfl
  refine hK _ ?_
  clear hK K
  (try simp only [Act.put, List.setIfInBounds_toArray, List.set_cons_zero, List.set_cons_succ])
  refine wpQuiet_step_h hlq ?_
  clear hlq lq
  intro K lq hlq hK
  refine wanted_go (by rfl) ?_
  refine ⟨?_, fun W hW => ?_, ?_⟩
  rotate_left
  · skip
    go_simp
    with_reducible rfl
  refine hK _ ?_
  clear hK K
  (try simp only [Act.put, List.setIfInBounds_toArray, List.set_cons_zero, List.set_cons_succ])
  refine wpQuiet_step_h hlq ?_
  clear hlq lq
  intro K lq hlq hK
  refine wanted_go (by rfl) ?_
  refine ⟨vPf p, fun W hW => ?_, ?_⟩
  · skip
    exact quiet_load 55 _ rfl rfl (ldP (hW.all.get 6 (x := (w.heap.size, oP p)) rfl) Hp.out)
  refine hK _ ?_
  clear hK K
  (try simp only [Act.put, List.setIfInBounds_toArray, List.set_cons_zero, List.set_cons_succ])
  refine wpQuiet_step_h hlq ?_
  clear hlq lq
  intro K lq hlq hK
  refine wanted_go (by rfl) ?_
  refine ⟨.int .i64 g, fun W hW => ?_, ?_⟩
  · go_simp
    have E' := hW.env E
    exact (c7).mono fun e W2 hc2 => ⟨hc2.1, hW.go hc2.2⟩
  refine hK _ ?_
  clear hK K
  (try simp only [Act.put, List.setIfInBounds_toArray, List.set_cons_zero, List.set_cons_succ])
  refine wpQuiet_step_h hlq ?_
  clear hlq lq
  intro K lq hlq hK
  refine wanted_go (by rfl) ?_
  refine ⟨vPf p, fun W hW => ?_, ?_⟩
  · skip
    exact quiet_load 55 _ rfl rfl (ldP (hW.all.get 6 (x := (w.heap.size, oP p)) rfl) Hp.out)
  refine hK _ ?_
  clear hK K
  (try simp only [Act.put, List.setIfInBounds_toArray, List.set_cons_zero, List.set_cons_succ])
  refine wpQuiet_step_h hlq ?_
  clear hlq lq
  intro K lq hlq hK
  refine wanted_go (by rfl) ?_
  refine ⟨.int .i64 g, fun W hW => ?_, ?_⟩
  · go_simp
    have E' := hW.env E
    exact (c8).mono fun e W2 hc2 => ⟨hc2.1, hW.go hc2.2⟩
  refine hK _ ?_
  clear hK K
  (try simp only [Act.put, List.setIfInBounds_toArray, List.set_cons_zero, List.set_cons_succ])
  refine wpQuiet_step_h hlq ?_
  clear hlq lq
  intro K lq hlq hK
  refine wanted_go (by rfl) ?_
  refine ⟨?_, fun W hW => ?_, ?_⟩
  rotate_left
  · skip
    go_simp
    with_reducible rfl
  refine hK _ ?_
  clear hK K
  (try simp only [Act.put, List.setIfInBounds_toArray, List.set_cons_zero, List.set_cons_succ])
  refine wpQuiet_step_h hlq ?_
  clear hlq lq
  intro K lq hlq hK
  refine wanted_go (by rfl) ?_
  refine ⟨?_, fun W hW => ?_, ?_⟩
  rotate_left
  · skip
    go_simp
    with_reducible rfl
  refine hK _ ?_
  clear hK K
  (try simp only [Act.put, List.setIfInBounds_toArray, List.set_cons_zero, List.set_cons_succ])
  refine wpQuiet_step_h hlq ?_
  clear hlq lq
  intro K lq hlq hK
  refine wanted_go (by rfl) ?_
  refine ⟨?_, fun W hW => ?_, ?_⟩
  rotate_left
  · skip
    go_simp
    with_reducible rfl
  refine hK _ ?_
  clear hK K
  (try simp only [Act.put, List.setIfInBounds_toArray, List.set_cons_zero, List.set_cons_succ])
  refine wpQuiet_step_h hlq ?_
  clear hlq lq
  intro K lq hlq hK
  refine wanted_go (by rfl) ?_
  refine ⟨?_, fun W hW => ?_, ?_⟩
  rotate_left
  · skip
    go_simp
    with_reducible rfl
  refine hK _ ?_
  clear hK K
  (try simp only [Act.put, List.setIfInBounds_toArray, List.set_cons_zero, List.set_cons_succ])
  refine wpQuiet_step_h hlq ?_
  clear hlq lq
  intro K lq hlq hK
  refine wanted_go (by rfl) ?_
  refine ⟨vPf z, fun W hW => ?_, ?_⟩
  · go_simp
    have E' := hW.env E
    exact (c9).mono fun e W2 hc2 => ⟨hc2.1, hW.go hc2.2⟩
  refine hK _ ?_
  clear hK K
  (try simp only [Act.put, List.setIfInBounds_toArray, List.set_cons_zero, List.set_cons_succ])
  refine wpQuiet_step_h hlq ?_
  clear hlq lq
  intro K lq hlq hK
  refine wanted_go (by rfl) ?_
  refine ⟨?_, fun W hW => ?_, ?_⟩
  rotate_left
  · skip
    go_simp
    with_reducible rfl
  refine hK _ ?_
  clear hK K
  (try simp only [Act.put, List.setIfInBounds_toArray, List.set_cons_zero, List.set_cons_succ])
  refine wpQuiet_step_h hlq ?_
  clear hlq lq
  intro K lq hlq hK
  refine wanted_go (by rfl) ?_
  refine ⟨vPf z, fun W hW => ?_, ?_⟩
  · go_simp
    have E' := hW.env E
    exact (c10).mono fun e W2 hc2 => ⟨hc2.1, hW.go hc2.2⟩
  refine hK _ ?_
  clear hK K
  (try simp only [Act.put, List.setIfInBounds_toArray, List.set_cons_zero, List.set_cons_succ])
  refine wpQuiet_step_h hlq ?_
  clear hlq lq
  intro K lq hlq hK
  refine wanted_go (by rfl) ?_
  refine ⟨.bool false, fun W hW => ?_, ?_⟩
  · skip
    exact quiet_eq (.inr rfl) (by rfl) (by rfl) (by rfl) guard55 (hZ W)
  refine hK _ ?_
  clear hK K
  (try simp only [Act.put, List.setIfInBounds_toArray, List.set_cons_zero, List.set_cons_succ])
  refine wpQuiet_step_h hlq ?_
  clear hlq lq
  intro K lq hlq hK
  refine wanted_go (by rfl) ?_
  refine ⟨?_, fun W hW => ?_, ?_⟩
  rotate_left
  · skip
    go_simp
    with_reducible rfl
  refine hK _ ?_
  clear hK K
  (try simp only [Act.put, List.setIfInBounds_toArray, List.set_cons_zero, List.set_cons_succ])
  refine wpQuiet_nil_h hlq ?_
  clear hlq lq hV20
  intro V21 hV22
  go_wp2_with fail
  refine wp_region_C (C := Bz w [(V16.heap.size, oP y), (V11.heap.size, oP y), (V6.heap.size, oP r), (V1.heap.size, oP r), (w.heap.size + 2, oA a), (w.heap.size + 1, oP q), (w.heap.size, oP p)]) (by kernel_rfl) (by kernel_rfl) (hV22.drew) ?_
  refine wpQuiet_hide ?_
  intro lq hlq
  refine wpQuiet_step_h hlq ?_
  clear hlq lq
  intro K lq hlq hK
  refine wanted_go (by rfl) ?_
  refine ⟨vPf p, fun W hW => ?_, ?_⟩
  · skip
    exact quiet_load 55 _ rfl rfl (ldP (hW.all.get 6 (x := (w.heap.size, oP p)) rfl) Hp.out)
  refine hK _ ?_
  clear hK K
  (try simp only [Act.put, List.setIfInBounds_toArray, List.set_cons_zero, List.set_cons_succ])
  refine wpQuiet_step_h hlq ?_
  clear hlq lq
  intro K lq hlq hK
  refine wanted_go (by rfl) ?_
  refine ⟨.string ⟨t.toArray⟩, fun W hW => ?_, ?_⟩
  · go_simp
    have E' := hW.env E
    exact (c11 E').mono fun e W2 hc2 => ⟨hc2.1, hW.go hc2.2⟩
  refine hK _ ?_
  clear hK K
  (try simp only [Act.put, List.setIfInBounds_toArray, List.set_cons_zero, List.set_cons_succ])
  refine wpQuiet_step_h hlq ?_
  clear hlq lq
  intro K lq hlq hK
  refine wanted_go (by rfl) ?_
  refine ⟨vPf p, fun W hW => ?_, ?_⟩
  · skip
    exact quiet_load 55 _ rfl rfl (ldP (hW.all.get 6 (x := (w.heap.size, oP p)) rfl) Hp.out)
  refine hK _ ?_
  clear hK K
  (try simp only [Act.put, List.setIfInBounds_toArray, List.set_cons_zero, List.set_cons_succ])
  refine wpQuiet_step_h hlq ?_
  clear hlq lq
  intro K lq hlq hK
  refine wanted_go (by rfl) ?_
  refine ⟨.string ⟨t.toArray⟩, fun W hW => ?_, ?_⟩
  · go_simp
    have E' := hW.env E
    exact (c12).mono fun e W2 hc2 => ⟨hc2.1, hW.go hc2.2⟩
  refine hK _ ?_
  clear hK K
  (try simp only [Act.put, List.setIfInBounds_toArray, List.set_cons_zero, List.set_cons_succ])
  refine wpQuiet_step_h hlq ?_
  clear hlq lq
  intro K lq hlq hK
  refine wanted_go (by rfl) ?_
  refine ⟨?_, fun W hW => ?_, ?_⟩
  rotate_left
  · skip
    go_simp
    with_reducible rfl
  refine hK _ ?_
  clear hK K
  (try simp only [Act.put, List.setIfInBounds_toArray, List.set_cons_zero, List.set_cons_succ])
  refine wpQuiet_nil_h hlq ?_
  clear hlq lq hV22
  intro V23 hV24
  go_wp2_with fail
  refine wp_region_C (C := Bz w [(V16.heap.size, oP y), (V11.heap.size, oP y), (V6.heap.size, oP r), (V1.heap.size, oP r), (w.heap.size + 2, oA a), (w.heap.size + 1, oP q), (w.heap.size, oP p)]) (by kernel_rfl) (by kernel_rfl) (hV24.drew) ?_
  refine wpQuiet_hide ?_
  intro lq hlq
  refine wpQuiet_step_h hlq ?_
  clear hlq lq
  intro K lq hlq hK
  refine wanted_go (by rfl) ?_
  refine ⟨vPf p, fun W hW => ?_, ?_⟩
  · skip
    exact quiet_load 55 _ rfl rfl (ldP (hW.all.get 6 (x := (w.heap.size, oP p)) rfl) Hp.out)
  refine hK _ ?_
  clear hK K
  (try simp only [Act.put, List.setIfInBounds_toArray, List.set_cons_zero, List.set_cons_succ])
  refine wpQuiet_step_h hlq ?_
  clear hlq lq
  intro K lq hlq hK
  refine wanted_go (by rfl) ?_
  refine ⟨vA a, fun W hW => ?_, ?_⟩
  · skip
    exact quiet_load 42 _ rfl rfl (ldA (hW.all.get 4 (x := (w.heap.size + 2, oA a)) rfl) Ha.out)
  refine hK _ ?_
  clear hK K
  (try simp only [Act.put, List.setIfInBounds_toArray, List.set_cons_zero, List.set_cons_succ])
  refine wpQuiet_step_h hlq ?_
  clear hlq lq
  intro K lq hlq hK
  refine wanted_go (by rfl) ?_
  refine ⟨.bool b1, fun W hW => ?_, ?_⟩
  · go_simp
    have E' := hW.env E
    exact (c13).mono fun e W2 hc2 => ⟨hc2.1, hW.go hc2.2⟩
  refine hK _ ?_
  clear hK K
  (try simp only [Act.put, List.setIfInBounds_toArray, List.set_cons_zero, List.set_cons_succ])
  refine wpQuiet_step_h hlq ?_
  clear hlq lq
  intro K lq hlq hK
  refine wanted_go (by rfl) ?_
  refine ⟨vPf p, fun W hW => ?_, ?_⟩
  · skip
    exact quiet_load 55 _ rfl rfl (ldP (hW.all.get 6 (x := (w.heap.size, oP p)) rfl) Hp.out)
  refine hK _ ?_
  clear hK K
  (try simp only [Act.put, List.setIfInBounds_toArray, List.set_cons_zero, List.set_cons_succ])
  refine wpQuiet_step_h hlq ?_
  clear hlq lq
  intro K lq hlq hK
  refine wanted_go (by rfl) ?_
  refine ⟨vA a, fun W hW => ?_, ?_⟩
  · skip
    exact quiet_load 42 _ rfl rfl (ldA (hW.all.get 4 (x := (w.heap.size + 2, oA a)) rfl) Ha.out)
  refine hK _ ?_
  clear hK K
  (try simp only [Act.put, List.setIfInBounds_toArray, List.set_cons_zero, List.set_cons_succ])
  refine wpQuiet_step_h hlq ?_
  clear hlq lq
  intro K lq hlq hK
  refine wanted_go (by rfl) ?_
  refine ⟨.bool b1, fun W hW => ?_, ?_⟩
  · go_simp
    have E' := hW.env E
    exact (c14).mono fun e W2 hc2 => ⟨hc2.1, hW.go hc2.2⟩
  refine hK _ ?_
  clear hK K
  (try simp only [Act.put, List.setIfInBounds_toArray, List.set_cons_zero, List.set_cons_succ])
  refine wpQuiet_step_h hlq ?_
  clear hlq lq
  intro K lq hlq hK
  refine wanted_go (by rfl) ?_
  refine ⟨?_, fun W hW => ?_, ?_⟩
  rotate_left
  · skip
    go_simp
    with_reducible rfl
  refine hK _ ?_
  clear hK K
  (try simp only [Act.put, List.setIfInBounds_toArray, List.set_cons_zero, List.set_cons_succ])
  refine wpQuiet_step_h hlq ?_
  clear hlq lq
  intro K lq hlq hK
  refine wanted_go (by rfl) ?_
  refine ⟨?_, fun W hW => ?_, ?_⟩
  rotate_left
  · skip
    go_simp
    with_reducible rfl
  refine hK _ ?_
  clear hK K
  (try simp only [Act.put, List.setIfInBounds_toArray, List.set_cons_zero, List.set_cons_succ])
  refine wpQuiet_step_h hlq ?_
  clear hlq lq
  intro K lq hlq hK
  refine wanted_go (by rfl) ?_
  refine ⟨vPf p, fun W hW => ?_, ?_⟩
  · skip
    exact quiet_load 55 _ rfl rfl (ldP (hW.all.get 6 (x := (w.heap.size, oP p)) rfl) Hp.out)
  refine hK _ ?_
  clear hK K
  (try simp only [Act.put, List.setIfInBounds_toArray, List.set_cons_zero, List.set_cons_succ])
  refine wpQuiet_step_h hlq ?_
  clear hlq lq
  intro K lq hlq hK
  refine wanted_go (by rfl) ?_
  refine ⟨vPf q, fun W hW => ?_, ?_⟩
  · skip
    exact quiet_load 55 _ rfl rfl (ldP (hW.all.get 5 (x := (w.heap.size + 1, oP q)) rfl) Hq.out)
  refine hK _ ?_
  clear hK K
  (try simp only [Act.put, List.setIfInBounds_toArray, List.set_cons_zero, List.set_cons_succ])
  refine wpQuiet_step_h hlq ?_
  clear hlq lq
  intro K lq hlq hK
  refine wanted_go (by rfl) ?_
  refine ⟨.bool b2, fun W hW => ?_, ?_⟩
  · go_simp
    have E' := hW.env E
    exact (c15).mono fun e W2 hc2 => ⟨hc2.1, hW.go hc2.2⟩
  refine hK _ ?_
  clear hK K
  (try simp only [Act.put, List.setIfInBounds_toArray, List.set_cons_zero, List.set_cons_succ])
  refine wpQuiet_step_h hlq ?_
  clear hlq lq
  intro K lq hlq hK
  refine wanted_go (by rfl) ?_
  refine ⟨vPf p, fun W hW => ?_, ?_⟩
  · skip
    exact quiet_load 55 _ rfl rfl (ldP (hW.all.get 6 (x := (w.heap.size, oP p)) rfl) Hp.out)
  refine hK _ ?_
  clear hK K
  (try simp only [Act.put, List.setIfInBounds_toArray, List.set_cons_zero, List.set_cons_succ])
  refine wpQuiet_step_h hlq ?_
  clear hlq lq
  intro K lq hlq hK
  refine wanted_go (by rfl) ?_
  refine ⟨vPf q, fun W hW => ?_, ?_⟩
  · skip
    exact quiet_load 55 _ rfl rfl (ldP (hW.all.get 5 (x := (w.heap.size + 1, oP q)) rfl) Hq.out)
  refine hK _ ?_
  clear hK K
  (try simp only [Act.put, List.setIfInBounds_toArray, List.set_cons_zero, List.set_cons_succ])
  refine wpQuiet_step_h hlq ?_
  clear hlq lq
  intro K lq hlq hK
  refine wanted_go (by rfl) ?_
  refine ⟨.bool b2, fun W hW => ?_, ?_⟩
  · go_simp
    have E' := hW.env E
    exact (c16).mono fun e W2 hc2 => ⟨hc2.1, hW.go hc2.2⟩
  refine hK _ ?_
  clear hK K
  (try simp only [Act.put, List.setIfInBounds_toArray, List.set_cons_zero, List.set_cons_succ])
  refine wpQuiet_step_h hlq ?_
  clear hlq lq
  intro K lq hlq hK
  refine wanted_go (by rfl) ?_
  refine ⟨?_, fun W hW => ?_, ?_⟩
  rotate_left
  · skip
    go_simp
    with_reducible rfl
  refine hK _ ?_
  clear hK K
  (try simp only [Act.put, List.setIfInBounds_toArray, List.set_cons_zero, List.set_cons_succ])
  refine wpQuiet_step_h hlq ?_
  clear hlq lq
  intro K lq hlq hK
  refine wanted_go (by rfl) ?_
  refine ⟨?_, fun W hW => ?_, ?_⟩
  rotate_left
  · skip
    go_simp
    with_reducible rfl
  refine hK _ ?_
  clear hK K
  (try simp only [Act.put, List.setIfInBounds_toArray, List.set_cons_zero, List.set_cons_succ])
  refine wpQuiet_step_h hlq ?_
  clear hlq lq
  intro K lq hlq hK
  refine wanted_go (by rfl) ?_
  refine ⟨?_, fun W hW => ?_, ?_⟩
  rotate_left
  · skip
    go_simp
    with_reducible rfl
  refine hK _ ?_
  clear hK K
  (try simp only [Act.put, List.setIfInBounds_toArray, List.set_cons_zero, List.set_cons_succ])
  refine wpQuiet_step_h hlq ?_
  clear hlq lq
  intro K lq hlq hK
  refine wanted_go (by rfl) ?_
  refine ⟨vPf p, fun W hW => ?_, ?_⟩
  · skip
    exact quiet_load 55 _ rfl rfl (ldP (hW.all.get 6 (x := (w.heap.size, oP p)) rfl) Hp.out)
  refine hK _ ?_
  clear hK K
  (try simp only [Act.put, List.setIfInBounds_toArray, List.set_cons_zero, List.set_cons_succ])
  refine wpQuiet_step_h hlq ?_
  clear hlq lq
  intro K lq hlq hK
  refine wanted_go (by rfl) ?_
  refine ⟨vPf q, fun W hW => ?_, ?_⟩
  · skip
    exact quiet_load 55 _ rfl rfl (ldP (hW.all.get 5 (x := (w.heap.size + 1, oP q)) rfl) Hq.out)
  refine hK _ ?_
  clear hK K
  (try simp only [Act.put, List.setIfInBounds_toArray, List.set_cons_zero, List.set_cons_succ])
  refine wpQuiet_step_h hlq ?_
  clear hlq lq
  intro K lq hlq hK
  refine wanted_go (by rfl) ?_
  refine ⟨.int .i64 i1, fun W hW => ?_, ?_⟩
  · go_simp
    have E' := hW.env E
    exact (c17).mono fun e W2 hc2 => ⟨hc2.1, hW.go hc2.2⟩
  refine hK _ ?_
  clear hK K
  (try simp only [Act.put, List.setIfInBounds_toArray, List.set_cons_zero, List.set_cons_succ])
  refine wpQuiet_step_h hlq ?_
  clear hlq lq
  intro K lq hlq hK
  refine wanted_go (by rfl) ?_
  refine ⟨vPf p, fun W hW => ?_, ?_⟩
  · skip
    exact quiet_load 55 _ rfl rfl (ldP (hW.all.get 6 (x := (w.heap.size, oP p)) rfl) Hp.out)
  refine hK _ ?_
  clear hK K
  (try simp only [Act.put, List.setIfInBounds_toArray, List.set_cons_zero, List.set_cons_succ])
  refine wpQuiet_step_h hlq ?_
  clear hlq lq
  intro K lq hlq hK
  refine wanted_go (by rfl) ?_
  refine ⟨vPf q, fun W hW => ?_, ?_⟩
  · skip
    exact quiet_load 55 _ rfl rfl (ldP (hW.all.get 5 (x := (w.heap.size + 1, oP q)) rfl) Hq.out)
  refine hK _ ?_
  clear hK K
  (try simp only [Act.put, List.setIfInBounds_toArray, List.set_cons_zero, List.set_cons_succ])
  refine wpQuiet_step_h hlq ?_
  clear hlq lq
  intro K lq hlq hK
  refine wanted_go (by rfl) ?_
  refine ⟨.int .i64 i1, fun W hW => ?_, ?_⟩
  · go_simp
    have E' := hW.env E
    exact (c18).mono fun e W2 hc2 => ⟨hc2.1, hW.go hc2.2⟩
  refine hK _ ?_
  clear hK K
  (try simp only [Act.put, List.setIfInBounds_toArray, List.set_cons_zero, List.set_cons_succ])
  refine wpQuiet_step_h hlq ?_
  clear hlq lq
  intro K lq hlq hK
  refine wanted_go (by rfl) ?_
  refine ⟨?_, fun W hW => ?_, ?_⟩
  rotate_left
  · skip
    go_simp
    with_reducible rfl
  refine hK _ ?_
  clear hK K
  (try simp only [Act.put, List.setIfInBounds_toArray, List.set_cons_zero, List.set_cons_succ])
  refine wpQuiet_step_h hlq ?_
  clear hlq lq
  intro K lq hlq hK
  refine wanted_go (by rfl) ?_
  refine ⟨?_, fun W hW => ?_, ?_⟩
  rotate_left
  · skip
    go_simp
    with_reducible rfl
  refine hK _ ?_
  clear hK K
  (try simp only [Act.put, List.setIfInBounds_toArray, List.set_cons_zero, List.set_cons_succ])
  refine wpQuiet_step_h hlq ?_
  clear hlq lq
  intro K lq hlq hK
  refine wanted_go (by rfl) ?_
  refine ⟨?_, fun W hW => ?_, ?_⟩
  rotate_left
  · skip
    go_simp
    with_reducible rfl
  refine hK _ ?_
  clear hK K
  (try simp only [Act.put, List.setIfInBounds_toArray, List.set_cons_zero, List.set_cons_succ])
  refine wpQuiet_step_h hlq ?_
  clear hlq lq
  intro K lq hlq hK
  refine wanted_go (by rfl) ?_
  refine ⟨?_, fun W hW => ?_, ?_⟩
  rotate_left
  · skip
    go_simp
    with_reducible rfl
  refine hK _ ?_
  clear hK K
  (try simp only [Act.put, List.setIfInBounds_toArray, List.set_cons_zero, List.set_cons_succ])
  refine wpQuiet_step_h hlq ?_
  clear hlq lq
  intro K lq hlq hK
  refine wanted_go (by rfl) ?_
  refine ⟨vA p.a, fun W hW => ?_, ?_⟩
  · skip
    exact quiet_load 42 _ rfl rfl (ldPa (hW.all.get 6 (x := (w.heap.size, oP p)) rfl) Hp.out)
  refine hK _ ?_
  clear hK K
  (try simp only [Act.put, List.setIfInBounds_toArray, List.set_cons_zero, List.set_cons_succ])
  refine wpQuiet_step_h hlq ?_
  clear hlq lq
  intro K lq hlq hK
  refine wanted_go (by rfl) ?_
  refine ⟨vA a, fun W hW => ?_, ?_⟩
  · skip
    exact quiet_load 42 _ rfl rfl (ldA (hW.all.get 4 (x := (w.heap.size + 2, oA a)) rfl) Ha.out)
  refine hK _ ?_
  clear hK K
  (try simp only [Act.put, List.setIfInBounds_toArray, List.set_cons_zero, List.set_cons_succ])
  refine wpQuiet_step_h hlq ?_
  clear hlq lq
  intro K lq hlq hK
  refine wanted_go (by rfl) ?_
  refine ⟨.int .i64 i2, fun W hW => ?_, ?_⟩
  · go_simp
    have E' := hW.env E
    exact (c19).mono fun e W2 hc2 => ⟨hc2.1, hW.go hc2.2⟩
  refine hK _ ?_
  clear hK K
  (try simp only [Act.put, List.setIfInBounds_toArray, List.set_cons_zero, List.set_cons_succ])
  refine wpQuiet_step_h hlq ?_
  clear hlq lq
  intro K lq hlq hK
  refine wanted_go (by rfl) ?_
  refine ⟨?_, fun W hW => ?_, ?_⟩
  rotate_left
  · skip
    go_simp
    with_reducible rfl
  refine hK _ ?_
  clear hK K
  (try simp only [Act.put, List.setIfInBounds_toArray, List.set_cons_zero, List.set_cons_succ])
  refine wpQuiet_step_h hlq ?_
  clear hlq lq
  intro K lq hlq hK
  refine wanted_go (by rfl) ?_
  refine ⟨vA p.a, fun W hW => ?_, ?_⟩
  · skip
    exact quiet_load 42 _ rfl rfl (ldPa (hW.all.get 6 (x := (w.heap.size, oP p)) rfl) Hp.out)
  refine hK _ ?_
  clear hK K
  (try simp only [Act.put, List.setIfInBounds_toArray, List.set_cons_zero, List.set_cons_succ])
  refine wpQuiet_step_h hlq ?_
  clear hlq lq
  intro K lq hlq hK
  refine wanted_go (by rfl) ?_
  refine ⟨vA a, fun W hW => ?_, ?_⟩
  · skip
    exact quiet_load 42 _ rfl rfl (ldA (hW.all.get 4 (x := (w.heap.size + 2, oA a)) rfl) Ha.out)
  refine hK _ ?_
  clear hK K
  (try simp only [Act.put, List.setIfInBounds_toArray, List.set_cons_zero, List.set_cons_succ])
  refine wpQuiet_step_h hlq ?_
  clear hlq lq
  intro K lq hlq hK
  refine wanted_go (by rfl) ?_
  refine ⟨.int .i64 i2, fun W hW => ?_, ?_⟩
  · go_simp
    have E' := hW.env E
    exact (c20).mono fun e W2 hc2 => ⟨hc2.1, hW.go hc2.2⟩
  refine hK _ ?_
  clear hK K
  (try simp only [Act.put, List.setIfInBounds_toArray, List.set_cons_zero, List.set_cons_succ])
  refine wpQuiet_step_h hlq ?_
  clear hlq lq
  intro K lq hlq hK
  refine wanted_go (by rfl) ?_
  refine ⟨?_, fun W hW => ?_, ?_⟩
  rotate_left
  · skip
    go_simp
    with_reducible rfl
  refine hK _ ?_
  clear hK K
  (try simp only [Act.put, List.setIfInBounds_toArray, List.set_cons_zero, List.set_cons_succ])
  refine wpQuiet_step_h hlq ?_
  clear hlq lq
  intro K lq hlq hK
  refine wanted_go (by rfl) ?_
  refine ⟨?_, fun W hW => ?_, ?_⟩
  rotate_left
  · skip
    go_simp
    with_reducible rfl
  refine hK _ ?_
  clear hK K
  (try simp only [Act.put, List.setIfInBounds_toArray, List.set_cons_zero, List.set_cons_succ])
  refine wpQuiet_step_h hlq ?_
  clear hlq lq
  intro K lq hlq hK
  refine wanted_go (by rfl) ?_
  refine ⟨?_, fun W hW => ?_, ?_⟩
  rotate_left
  · skip
    go_simp
    with_reducible rfl
  refine hK _ ?_
  clear hK K
  (try simp only [Act.put, List.setIfInBounds_toArray, List.set_cons_zero, List.set_cons_succ])
  refine wpQuiet_step_h hlq ?_
  clear hlq lq
  intro K lq hlq hK
  refine wanted_go (by rfl) ?_
  refine ⟨.bool true, fun W hW => ?_, ?_⟩
  · go_simp
    have E' := hW.env E
    exact (live02_any E').mono fun e W2 hc2 => ⟨hc2.1, hW.go hc2.2⟩
  refine hK _ ?_
  clear hK K
  (try simp only [Act.put, List.setIfInBounds_toArray, List.set_cons_zero, List.set_cons_succ])
  refine wpQuiet_step_h hlq ?_
  clear hlq lq
  intro K lq hlq hK
  refine wanted_go (by rfl) ?_
  refine ⟨?_, fun W hW => ?_, ?_⟩
  rotate_left
  · skip
    go_simp
    with_reducible rfl
  refine hK _ ?_
  clear hK K
  (try simp only [Act.put, List.setIfInBounds_toArray, List.set_cons_zero, List.set_cons_succ])
  refine wpQuiet_step_h hlq ?_
  clear hlq lq
  intro K lq hlq hK
  refine wanted_go (by rfl) ?_
  refine ⟨?_, fun W hW => ?_, ?_⟩
  rotate_left
  · skip
    go_simp
    with_reducible rfl
  refine hK _ ?_
  clear hK K
  (try simp only [Act.put, List.setIfInBounds_toArray, List.set_cons_zero, List.set_cons_succ])
  refine wpQuiet_nil_h hlq ?_
  clear hlq lq hV24
  intro V25 hV26
  go_wp2_with fail
  go_ret
  exact ⟨rfl, hV26.bel⟩
theorem okP_fit {a : List Int} (ha : isA a) (n : Int) : (okP (ofP a n)).ok := by
  cases h : ofP a n with
  | none => exact zeroP_ok
  | some p =>
    obtain ⟨h1, h2, h3⟩ := ofP_ok ha h
    exact ⟨h1, wf_i64 ⟨by show _ ≤ p.n; omega, by show p.n ≤ _; omega⟩⟩
theorem AddrPrefixes_walk (s : ByteArray) (p q : Pf) (a : List Int) (n : Int) (hs : s.size ≤ 140737488351232) (hp : p.ok) (hq : q.ok) (ha : isA a) {w : World} (E : Env w) : Calls Tryz.prog 14 #[.string s, vPf p, vPf q, vA a, .int .i64 n] w fun e w' => e = .returned (.bool true) ∧ Below w.heap.size w w' := by
  by_cases h : 5000 < s.size
  · exact prefixes_long h hp hq ha E
  · exact prefixes_run (by omega) hp hq ha (parsePS_fit s) (y := okP (ofP a n)) (okP_fit ha n) (any_ok n) rfl rfl rfl rfl rfl rfl rfl rfl rfl rfl rfl E
end Go.Proofs.YtnljjlaececnkaaGreatDoor
/-
  What a card's listed variables give the walks; the opening of arguments that are addresses, prefixes, pairs. No condition.
-/
namespace Go.Proofs.YtnljjlaececnkaaGreatDoor
open Go.ChangeShapes Go.WideShapes Go.ChangeAt Go.RowKit
set_option linter.unusedVariables false
set_option linter.unusedSimpArgs false
theorem star_err : "*" ++ "errors.errorString" = "*errors.errorString" := by decide
theorem row354 (u : TypeId) (h : Tryz.prog.typeName? 3 u = some "*errors.errorString") : u = 354 :=
  typeName_ptr_named (nm := "errors.errorString") (by rw [star_err]; kernel_rfl) (by kernel_rfl) (by decide) u (by rw [star_err]; exact h)
theorem c356 : Tryz.prog.cellsOf 356 = 1 := by kernel_rfl
theorem c9' : Tryz.prog.cellsOf 9 = 1 := by kernel_rfl
theorem c5' : Tryz.prog.cellsOf 5 = 1 := by kernel_rfl
def bruijn : List Int := [0, 1, 56, 2, 57, 49, 28, 3, 61, 58, 42, 50, 38, 29, 17, 4, 62, 47, 59, 36, 45, 43, 51, 22, 53, 39, 33, 30, 24, 18, 12, 5, 63, 55, 48, 27, 60, 41, 37, 16, 46, 35, 44, 21, 52, 32, 23, 11, 54, 26, 40, 15, 34, 20, 31, 10, 25, 14, 19, 9, 13, 8, 7, 6]
theorem tab_below {P : Program} {w w' : World} {name : String} {k : IntKind} {zs : List Int} (h : Lib.TabIs P w name k zs) (hb : Below w.heap.size w w') : Lib.TabIs P w' name k zs := by
  unfold Lib.TabIs World.var? at *
  cases hg : P.globalNamed name with
  | none => simp [hg] at h
  | some g =>
    simp only [hg, Option.bind_some] at h ⊢
    have hlt : g < w.heap.size := by
      rcases Nat.lt_or_ge g w.heap.size with h' | h'
      · exact h'
      · simp [Array.getElem?_eq_none h'] at h
    rw [hb.block g hlt]; exact h
theorem EnvC.below {W W' : World} (h : EnvC W) (hb : Below W.heap.size W W') : EnvC W' := by
  have hc : ∀ {b o : Nat} {v : Value}, W.cell? ⟨b, o, none⟩ = some v → W'.cell? ⟨b, o, none⟩ = some v := fun {b o v} hv => by
    rw [hb.cell (p := ⟨b, o, none⟩) (World.block_lt_of_cell? W _ hv)]; exact hv
  obtain ⟨⟨m, h1⟩, ⟨e1, h2, i2⟩, ⟨e2, h3, i3⟩, h4, h5⟩ := h
  exact ⟨⟨m, hc h1⟩, ⟨e1, hc h2, i2⟩, ⟨e2, hc h3, i3⟩, tab_below h4 hb, hc h5⟩
theorem EnvC.env {W : World} (h : EnvC W) : Env W := fun W' hb => h.below hb
theorem envc_of {W : World} (hsh : W.ShapedOpen Tryz.prog) (hL : laidMetH Tryz.prog Rows.addrTreeRow.laid W) : EnvC W := by
  rw [MakeChecks.laidMetH_plain _ _ _ (by kernel_rfl)] at hL
  obtain ⟨m, hm⟩ := cell_of_shapedOpen_int (g := 0) (zero := #[.int .i64 0]) (t := 3) hsh (of_decide_eq_true (by kernel_rfl)) (by kernel_rfl) rfl (by kernel_rfl) (by kernel_rfl) Tryz.underlying3
  have h1 := hL.tail
  have h2 := h1.tail
  have h4 := h2.tail.tail
  have h5 := h4.tail
  have t64 : Lib.TabIs Tryz.prog W "math/bits.deBruijn64tab" .u8 bruijn := Lib.tabIs_of_head (g := 7) (t := 382) (e := 5) (n := 64) (by kernel_rfl) (by kernel_rfl) Tryz.underlying382 Tryz.underlying5 c5' (by kernel_rfl) h1
  have tp : Lib.TabIs Tryz.prog W "internal/strconv.uint64pow10" .u64 Lib.pow10Tab := Lib.tabIs_of_head (g := 3) (t := 324) (e := 161) (n := 20) (by kernel_rfl) (by kernel_rfl) Tryz.underlying324 Tryz.underlying161 (by kernel_rfl) (by kernel_rfl) h2
  obtain ⟨a1, s1, v1, -, -, -⟩ := laid_sentinel h4 (g := 2) (ti := 158) (by kernel_rfl) (by kernel_rfl) Tryz.underlying158 row354 Tryz.underlying354 Tryz.underlying356 rfl rfl Tryz.underlying9 c356 c9'
  obtain ⟨a2, s2, v2, -, -, -⟩ := laid_sentinel h5 (g := 1) (ti := 158) (by kernel_rfl) (by kernel_rfl) Tryz.underlying158 row354 Tryz.underlying354 Tryz.underlying356 rfl rfl Tryz.underlying9 c356 c9'
  have c1 := World.var?_cell (show Tryz.prog.globalNamed "strconv.ErrRange" = some 2 by kernel_rfl) v1 0
  have c2 := World.var?_cell (show Tryz.prog.globalNamed "strconv.ErrSyntax" = some 1 by kernel_rfl) v2 0
  exact ⟨⟨m, hm⟩, ⟨_, by simpa using c2, .inr ⟨_, _, rfl⟩⟩, ⟨_, by simpa using c1, .inr ⟨_, _, rfl⟩⟩, tp, by have := t64.cell (show Tryz.prog.globalNamed "math/bits.deBruijn64tab" = some 7 by kernel_rfl) 15 (by decide); simpa [bruijn] using this⟩
theorem env_of {W : World} (hsh : W.ShapedOpen Tryz.prog) (hL : laidMetH Tryz.prog Rows.addrTreeRow.laid W) : Env W := (envc_of hsh hL).env
/-! ### arguments -/
theorem cell_int {P : Program} {w : World} {r : Reach} {base : Nat} {t : TypeId} {v : Value} {k : IntKind} (ht : P.underlying t = some (.int k)) (h : Cell.okWide P w r base t v) : ∃ n, v = .int k n ∧ k.has n := by
  unfold Cell.okWide at h
  rw [ht] at h
  cases v <;> simp_all [Cell.ok]
/-- A row of cells, each a whole number of its kind. -/
theorem open_cells {P : Program} {w : World} {r : Reach} {base : Nat} {t : TypeId} {cs : Array Value} {ts : List TypeId} {ks : List IntKind} (hts : P.cellTypes P.depth t = some ts) (hk : ts.map P.underlying = ks.map fun k => some (.int k)) (hsz : cs.size = ts.length) (h : Row.okWide P w r base t cs) :
    ∃ xs : List Int, xs.length = ts.length ∧ ∀ (i : Nat) (k : IntKind), ks[i]? = some k → ∃ x, xs[i]? = some x ∧ cs[i]? = some (.int k x) ∧ k.has x := by
  obtain ⟨ts', h1, -, h3⟩ := h
  rw [hts] at h1; cases h1
  have key : ∀ i, i < ts.length → ∃ k x, ks[i]? = some k ∧ cs[i]? = some (.int k x) ∧ k.has x := by
    intro i hi
    obtain ⟨v, hv⟩ : ∃ v, cs[i]? = some v := ⟨_, Array.getElem?_eq_getElem (by omega)⟩
    obtain ⟨u, hu, ho⟩ := h3 i v hv
    rw [Nat.mod_eq_of_lt hi] at hu
    have e := congrArg (fun l => l[i]?) hk
    simp only [List.getElem?_map, hu, Option.map_some] at e
    cases hki : ks[i]? with
    | none => rw [hki] at e; cases e
    | some k =>
      rw [hki] at e
      obtain ⟨x, rfl, hx⟩ := cell_int (Option.some.inj e) ho
      exact ⟨k, x, rfl, hv, hx⟩
  have hl : ks.length = ts.length := by have := congrArg List.length hk; simpa using this.symm
  refine ⟨(List.range ts.length).map fun i => (match cs[i]? with | some (Value.int _ x) => x | _ => (0 : Int)), by simp, fun i k hki => ?_⟩
  have hi : i < ts.length := by have := (List.getElem?_eq_some_iff.1 hki).1; omega
  obtain ⟨k', x, h1, h2, h4⟩ := key i hi
  rw [hki] at h1; cases h1
  exact ⟨x, by simp [hi, h2], h2, h4⟩
theorem has_u8 {x : Int} (h : IntKind.u8.has x) : 0 ≤ x ∧ x < 256 := by
  have e1 : IntKind.u8.min = 0 := rfl
  have e2 : IntKind.u8.max = 255 := rfl
  simp [IntKind.has, e1, e2] at h; omega
theorem rep_get {α : Type} {n i : Nat} (k : α) (h : i < n) : (List.replicate n k)[i]? = some k := by rw [List.getElem?_replicate, if_pos h]
theorem ct42 : Tryz.prog.cellTypes Tryz.prog.depth 42 = some (List.replicate 16 5) := by kernel_rfl
theorem ct55 : Tryz.prog.cellTypes Tryz.prog.depth 55 = some (List.replicate 16 5 ++ [3]) := by kernel_rfl
theorem ct57 : Tryz.prog.cellTypes Tryz.prog.depth 57 = some (List.replicate 16 5 ++ [3] ++ (List.replicate 16 5 ++ [3])) := by kernel_rfl
theorem size42' : Tryz.prog.cellsOf 42 = 16 := by kernel_rfl
theorem arr_eq {cs : Array Value} {l : List Value} (hl : cs.size = l.length) (h : ∀ i, i < l.length → cs[i]? = l[i]?) : cs = l.toArray := by
  apply Array.ext_getElem?
  intro i
  by_cases hi : i < l.length
  · rw [h i hi, List.getElem?_toArray]
  · rw [Array.getElem?_eq_none (by omega), List.getElem?_toArray, List.getElem?_eq_none (by omega)]
section
variable {w : World} {r : Reach} {base : Nat} {v : Value}
set_option maxRecDepth 100000 in
/-- An address that came in. -/
theorem open_A (h : Value.okWide Tryz.prog w r base 42 v) : ∃ a, v = vA a ∧ isA a := by
  unfold Value.okWide at h
  rw [Tryz.underlying42] at h
  obtain ⟨cs, rfl, hsz, hr⟩ := h
  rw [size42'] at hsz
  obtain ⟨xs, hl, hx⟩ := open_cells (ks := List.replicate 16 .u8) ct42 (by simp [Tryz.underlying5]) (by simp [hsz]) hr
  have hg : ∀ i, i < 16 → ∃ x, xs[i]? = some x ∧ cs[i]? = some (.int .u8 x) ∧ IntKind.u8.has x := fun i hi => hx i .u8 (rep_get _ hi)
  have hl' : xs.length = 16 := by simpa using hl
  refine ⟨xs, ?_, hl', fun x hm => ?_⟩
  · unfold vA
    congr 1
    refine arr_eq (by rw [nums_length]; omega) fun i hi => ?_
    rw [nums_length] at hi
    obtain ⟨x, h1, h2, -⟩ := hg i (by omega)
    rw [h2, nums_get h1]
  · obtain ⟨i, hi, rfl⟩ := List.mem_iff_getElem.1 hm
    obtain ⟨x, h1, -, h3⟩ := hg i (by omega)
    rw [List.getElem?_eq_getElem hi] at h1
    rw [Option.some.inj h1]; exact has_u8 h3
theorem has_i64 {x : Int} (h : IntKind.i64.has x) : (Lit.int .i64 x).wf = true := by
  simp [IntKind.has] at h
  simp [Lit.wf]; omega
set_option maxRecDepth 100000 in
/-- The part of a row that is a prefix. -/
theorem open_pf {cs : Array Value} {off : Nat} (h8 : ∀ i, i < 16 → ∃ x, cs[off + i]? = some (.int .u8 x) ∧ IntKind.u8.has x) (hn : ∃ x, cs[off + 16]? = some (.int .i64 x) ∧ IntKind.i64.has x) :
    ∃ p : Pf, p.ok ∧ ∀ j, j < 17 → cs[off + j]? = (pCs p.a p.n)[j]? := by
  obtain ⟨n, hn, hn2⟩ := hn
  have hg : ∀ i, i < 16 → ((List.range 16).map fun i => (match cs[off + i]? with | some (Value.int _ x) => x | _ => (0 : Int)))[i]? = some (match cs[off + i]? with | some (Value.int _ x) => x | _ => (0 : Int)) := fun i hi => by simp [hi]
  refine ⟨⟨(List.range 16).map fun i => (match cs[off + i]? with | some (Value.int _ x) => x | _ => (0 : Int)), n⟩, ⟨⟨by simp, fun x hx => ?_⟩, has_i64 hn2⟩, fun j hj => ?_⟩
  · obtain ⟨i, hi, rfl⟩ := List.mem_map.1 hx
    obtain ⟨y, h1, h2⟩ := h8 i (by simpa using hi)
    rw [h1]; exact has_u8 h2
  · by_cases h16 : j < 16
    · obtain ⟨y, h1, h2⟩ := h8 j h16
      have := hg j h16
      rw [h1] at this ⊢
      exact (pCs_at (p := ⟨_, n⟩) (nums_get (k := .u8) this)).symm
    · obtain rfl : j = 16 := by omega
      rw [hn]
      exact (pCs_get (p := ⟨_, n⟩) ⟨by simp, fun x hx => by
        obtain ⟨i, hi, rfl⟩ := List.mem_map.1 hx
        obtain ⟨y, h1, h2⟩ := h8 i (by simpa using hi)
        rw [h1]; exact has_u8 h2⟩).symm
set_option maxRecDepth 100000 in
/-- A prefix that came in. -/
theorem open_P (h : Value.okWide Tryz.prog w r base 55 v) : ∃ p, v = vPf p ∧ p.ok := by
  unfold Value.okWide at h
  rw [Tryz.underlying55] at h
  obtain ⟨cs, rfl, hsz, hr⟩ := h
  rw [c55] at hsz
  obtain ⟨xs, hl, hx⟩ := open_cells (ks := List.replicate 16 .u8 ++ [.i64]) ct55 (by simp [Tryz.underlying5, Tryz.underlying3]) (by simp [hsz]) hr
  obtain ⟨p, hp, he⟩ := open_pf (cs := cs) (off := 0) (fun i hi => by
      obtain ⟨x, -, h2, h3⟩ := hx i .u8 (by rw [List.getElem?_append_left (by rw [List.length_replicate]; exact hi)]; exact rep_get _ hi)
      exact ⟨x, by simpa using h2, h3⟩) (by
      obtain ⟨x, -, h2, h3⟩ := hx 16 .i64 (by simp)
      exact ⟨x, by simpa using h2, h3⟩)
  refine ⟨p, ?_, hp⟩
  unfold vPf
  congr 1
  refine arr_eq (by rw [pCs_len hp.1]; exact hsz) fun j hj => ?_
  rw [pCs_len hp.1] at hj
  simpa using he j hj
set_option maxRecDepth 100000 in
/-- A pair that came in. -/
theorem open_PP (h : Value.okWide Tryz.prog w r base 57 v) : ∃ p, v = vPP p ∧ p.fit := by
  unfold Value.okWide at h
  rw [Tryz.underlying57] at h
  obtain ⟨cs, rfl, hsz, hr⟩ := h
  rw [c57] at hsz
  obtain ⟨xs, hl, hx⟩ := open_cells (ks := List.replicate 16 .u8 ++ [.i64] ++ (List.replicate 16 .u8 ++ [.i64])) ct57 (by simp [Tryz.underlying5, Tryz.underlying3]) (by simp [hsz]) hr
  obtain ⟨p, hp, he⟩ := open_pf (cs := cs) (off := 0) (fun i hi => by
      obtain ⟨x, -, h2, h3⟩ := hx i .u8 (by rw [List.append_assoc, List.getElem?_append_left (by rw [List.length_replicate]; exact hi)]; exact rep_get _ hi)
      exact ⟨x, by simpa using h2, h3⟩) (by
      obtain ⟨x, -, h2, h3⟩ := hx 16 .i64 (by simp)
      exact ⟨x, by simpa using h2, h3⟩)
  obtain ⟨q, hq, hf⟩ := open_pf (cs := cs) (off := 17) (fun i hi => by
      obtain ⟨x, -, h2, h3⟩ := hx (17 + i) .u8 (by
        have e : (List.replicate 16 IntKind.u8 ++ [IntKind.i64]).length = 17 := rfl
        rw [List.getElem?_append_right (by omega), e, Nat.add_sub_cancel_left, List.getElem?_append_left (by rw [List.length_replicate]; exact hi)]; exact rep_get _ hi)
      exact ⟨x, h2, h3⟩) (by
      obtain ⟨x, -, h2, h3⟩ := hx 33 .i64 (by simp)
      exact ⟨x, by simpa using h2, h3⟩)
  refine ⟨⟨p, q⟩, ?_, hp, hq⟩
  unfold vPP
  congr 1
  refine arr_eq (by rw [List.length_append, pCs_len hp.1, pCs_len hq.1]; exact hsz) fun j hj => ?_
  rw [List.length_append, pCs_len hp.1, pCs_len hq.1] at hj
  by_cases hj17 : j < 17
  · rw [List.getElem?_append_left (by rw [pCs_len hp.1]; exact hj17)]
    simpa using he j hj17
  · rw [List.getElem?_append_right (by rw [pCs_len hp.1]; omega), pCs_len hp.1, ← hf (j - 17) (by omega), show 17 + (j - 17) = j by omega]
end
end Go.Proofs.YtnljjlaececnkaaGreatDoor
/-
  The closed facts on the whole program that each row asks, one declaration each. No condition.
-/
namespace Go.Proofs.YtnljjlaececnkaaGreatDoor
open Go.ChangeShapes Go.WideShapes
set_option linter.unusedVariables false
theorem jf_out : laidOutB Tryz.pinned.checked.prog = true := by kernel_rfl
theorem jf_maps : mapsRowed Tryz.pinned.checked.prog = true := by kernel_rfl
theorem jf_stops : (Tryz.pinned.checked.prog.stops == []) = true := by kernel_rfl
theorem jf_knobs : (Tryz.pinned.checked.prog.stopKnobs == []) = true := by kernel_rfl
theorem jf_keys : (false == Tryz.pinned.checked.prog.plainKeys) = true := by kernel_rfl
theorem jf_heard : Tryz.pinned.checked.prog.stopsHeard = true := by kernel_rfl
theorem jf_enter : Tryz.pinned.checked.prog.mayEnter = true := by kernel_rfl
theorem jf_lift : (Rows.addrTreeRow.lifted == Tryz.pinned.checked.prog.liftsFinal) = true := by kernel_rfl
theorem jf_make : (Tryz.pinned.checked.prog.make == some Rows.addrTreeRow.make) = true := by kernel_rfl
/-! ### of a card -/
theorem jf_main : Tryz.pinned.checked.prog.mainIs = some (true, "11f230a8d8e2c1745f747872d237d21740fd6a16d7af62534ef2deb61fc91356".toList) := by kernel_rfl
theorem jf_looks : true = Tryz.pinned.checked.prog.looks [] := by kernel_rfl
end Go.Proofs.YtnljjlaececnkaaGreatDoor
/-
  The closed facts of a row, out of those of its own and those on the whole program. No condition.
-/
namespace Go.Proofs.YtnljjlaececnkaaGreatDoor
open Go.ChangeShapes Go.WideShapes
set_option linter.unusedVariables false
/-- The closed facts of a row, out of those of its own. -/
theorem joined_gen {P : Program} {f : FuncId} {fn : Func} {s : ChangeSpec} {c : OpenClaim}
    (jf_out : laidOutB P = true) (jf_maps : mapsRowed P = true) (jf_stops : (P.stops == []) = true) (jf_knobs : (P.stopKnobs == []) = true) (k1 : (c.plainKeys == P.plainKeys) = true) (jf_heard : P.stopsHeard = true) (jf_enter : P.mayEnter = true) (k2 : (c.lifted == P.liftsFinal) = true) (k3 : (P.make == some c.make) = true)
    (a1 : c.wf (OpenSpec.ofChange s) = true) (a2 : fn.params.all (P.readableRec ·) = true) (a3 : namedTie P c.named s.vars = true) (a4 : (c.stops == []) = true) (a5 : (c.knobs == []) = true)
    (a6 : (c.inPlace == P.inPlace f) = true) (a7 : (c.unfollowed == P.unfollowed f) = true) (a8 : (c.recurses == P.recurses f) = true) (a9 : (c.named == P.varsNamed f) = true)
    (b1 : (c.maps == (fn.params.toList ++ s.plain.varTypes P).any (P.mapsRec ·)) = true) (b2 : (c.ifaces == (fn.params.toList ++ s.plain.varTypes P).any (P.ifacesRec ·)) = true) (b3 : (c.mapsOut == P.mapsAmong fn.resultTypes.toList) = true)
    (b4 : (c.loops == (fn.params.toList ++ s.plain.varTypes P).any (P.loopsFrom ·)) = true) (b5 : (c.wideKeys == (fn.params.toList ++ s.plain.varTypes P ++ fn.resultTypes.toList).any (P.wideKeysFrom ·)) = true)
    (b6 : s.vars.all (P.varReadable ·) = true) (b7 : fn.resultTypes.all (fun t => P.readableRec t && decide (t < P.types.size)) = true) (b8 : (c.ifacesOut == fn.resultTypes.toList.any (P.ifacesRec ·)) = true) (b9 : (c.loopsOut == fn.resultTypes.toList.any (P.loopsFrom ·)) = true)
    (d1 : c.shortTexts.isNone = true) (d2 : (c.kinds == (if c.domain.isEmpty then [] else fn.params.toList.map fun t => match P.underlying t with | some (.int k) => some k | _ => none)) = true) (d3 : (c.pinned == c.pinnedBy) = true)
    (d4 : (c.veiled == (fn.params.toList ++ s.plain.varTypes P ++ fn.resultTypes.toList).any (P.veiledRec ·)) = true) (d5 : c.veiledFits P fn.params.toList (fn.params.toList ++ s.plain.varTypes P ++ fn.resultTypes.toList) = true) :
    joinedFacts P f fn s c = true := by
  unfold joinedFacts
  rw [a1, jf_out, jf_maps, a2, a3, a4, jf_stops, a5, jf_knobs, a6, a7, a8, a9, b1, b2, b3, b4, b5, b6, b7, b8, b9, k1, d1, jf_heard, jf_enter, k2, k3, d3, d4, d5]
  simp only [Bool.true_and, Bool.and_true]
  exact d2
/-- The closed facts of a row, out of those of its own. -/
theorem joined_of {f : FuncId} {fn : Func} {s : ChangeSpec} {c : OpenClaim}
    (hk : c.plainKeys = false) (hl : c.lifted = Rows.addrTreeRow.lifted) (hm : c.make = Rows.addrTreeRow.make)
    (a1 : c.wf (OpenSpec.ofChange s) = true) (a2 : fn.params.all (Tryz.pinned.checked.prog.readableRec ·) = true) (a3 : namedTie Tryz.pinned.checked.prog c.named s.vars = true) (a4 : (c.stops == []) = true) (a5 : (c.knobs == []) = true)
    (a6 : (c.inPlace == Tryz.pinned.checked.prog.inPlace f) = true) (a7 : (c.unfollowed == Tryz.pinned.checked.prog.unfollowed f) = true) (a8 : (c.recurses == Tryz.pinned.checked.prog.recurses f) = true) (a9 : (c.named == Tryz.pinned.checked.prog.varsNamed f) = true)
    (b1 : (c.maps == (fn.params.toList ++ s.plain.varTypes Tryz.pinned.checked.prog).any (Tryz.pinned.checked.prog.mapsRec ·)) = true) (b2 : (c.ifaces == (fn.params.toList ++ s.plain.varTypes Tryz.pinned.checked.prog).any (Tryz.pinned.checked.prog.ifacesRec ·)) = true) (b3 : (c.mapsOut == Tryz.pinned.checked.prog.mapsAmong fn.resultTypes.toList) = true)
    (b4 : (c.loops == (fn.params.toList ++ s.plain.varTypes Tryz.pinned.checked.prog).any (Tryz.pinned.checked.prog.loopsFrom ·)) = true) (b5 : (c.wideKeys == (fn.params.toList ++ s.plain.varTypes Tryz.pinned.checked.prog ++ fn.resultTypes.toList).any (Tryz.pinned.checked.prog.wideKeysFrom ·)) = true)
    (b6 : s.vars.all (Tryz.pinned.checked.prog.varReadable ·) = true) (b7 : fn.resultTypes.all (fun t => Tryz.pinned.checked.prog.readableRec t && decide (t < Tryz.pinned.checked.prog.types.size)) = true) (b8 : (c.ifacesOut == fn.resultTypes.toList.any (Tryz.pinned.checked.prog.ifacesRec ·)) = true) (b9 : (c.loopsOut == fn.resultTypes.toList.any (Tryz.pinned.checked.prog.loopsFrom ·)) = true)
    (d1 : c.shortTexts.isNone = true) (d2 : (c.kinds == (if c.domain.isEmpty then [] else fn.params.toList.map fun t => match Tryz.pinned.checked.prog.underlying t with | some (.int k) => some k | _ => none)) = true) (d3 : (c.pinned == c.pinnedBy) = true)
    (d4 : (c.veiled == (fn.params.toList ++ s.plain.varTypes Tryz.pinned.checked.prog ++ fn.resultTypes.toList).any (Tryz.pinned.checked.prog.veiledRec ·)) = true) (d5 : c.veiledFits Tryz.pinned.checked.prog fn.params.toList (fn.params.toList ++ s.plain.varTypes Tryz.pinned.checked.prog ++ fn.resultTypes.toList) = true) :
    joinedFacts Tryz.pinned.checked.prog f fn s c = true := by
  have k1 : (c.plainKeys == Tryz.pinned.checked.prog.plainKeys) = true := by rw [hk]; exact jf_keys
  have k2 : (c.lifted == Tryz.pinned.checked.prog.liftsFinal) = true := by rw [hl]; exact jf_lift
  have k3 : (Tryz.pinned.checked.prog.make == some c.make) = true := by rw [hm]; exact jf_make
  exact joined_gen jf_out jf_maps jf_stops jf_knobs k1 jf_heard jf_enter k2 k3 a1 a2 a3 a4 a5 a6 a7 a8 a9 b1 b2 b3 b4 b5 b6 b7 b8 b9 d1 d2 d3 d4 d5
end Go.Proofs.YtnljjlaececnkaaGreatDoor
