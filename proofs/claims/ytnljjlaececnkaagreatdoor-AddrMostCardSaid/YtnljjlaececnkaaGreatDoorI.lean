/-
  quad: four numbers as an address. Condition: the variables hold what their initialisers laid; a text is no longer than memory has room for.
-/
import Derived.Test.YtnljjlaececnkaaGreatDoorH
import Derived.Lib.SplitLaws
namespace Go.Proofs.YtnljjlaececnkaaGreatDoor
open Go.RowKit
set_option linter.unusedVariables false
set_option linter.unusedSimpArgs false
theorem split_n {w : World} (E : Env w) {s sep : ByteArray} {l : List ByteArray} {n : Nat} (hs : s.size < 4294967281) (h1 : 1 ≤ sep.size) (hl : pieces s sep = l) (hn : l.length = n) :
    Calls Tryz.prog 99 #[.string s, .string sep] w fun e w' => e = .returned (.slice (some ⟨w.heap.size, 0, none⟩) n n) ∧ w' = w.alloc (.cells (l.map Value.string).toArray 9) := by
  obtain ⟨m, hm⟩ := (E.go (Below.refl _ _)).1.mx
  have hcn : Lib.countB s sep + 1 = n := by rw [← hn, ← hl]; exact (Lib.splitB_all sep h1 0 _ s rfl).symm
  refine (Tryz.strings_Split s sep m w hs hm h1).mono fun e w' h => ?_
  rw [hcn] at h
  rw [← hl]; exact h
theorem dec_oct {w : World} (E : Env w) {t : ByteArray} {v : Int} (hs : t.size ≤ 140737488351232) (h : octS t = some v) : Calls Tryz.prog 124 #[.string t, .int .i64 3] w fun e w' => e = .returned (.tuple #[.int .i64 v, .bool true]) ∧ Below w.heap.size w w' := by
  refine (dec_any E t hs 3).mono fun e w' ⟨⟨n, b, he, hb, hv⟩, bel⟩ => ⟨?_, bel⟩
  unfold octS at h
  split at h
  · rename_i u hu
    split at h
    · cases h; rw [he, hb, hv v hu, hu]; rfl
    · cases h
  · cases h
def NoOct (e : Ending) : Prop := ∃ n b, e = .returned (.tuple #[.int .i64 n, .bool b]) ∧ (b = false ∨ b = true ∧ decide (255 < n) = true)
theorem dec_no {w : World} (E : Env w) {t : ByteArray} (hs : t.size ≤ 140737488351232) (h : octS t = none) : Calls Tryz.prog 124 #[.string t, .int .i64 3] w fun e w' => NoOct e ∧ Below w.heap.size w w' := by
  refine (dec_any E t hs 3).mono fun e w' ⟨⟨n, b, he, hb, hv⟩, bel⟩ => ⟨⟨n, b, he, ?_⟩, bel⟩
  unfold octS at h
  split at h
  · rename_i u hu
    split at h
    · cases h
    · right; rw [hb, hu, hv u hu]; exact ⟨rfl, decide_eq_true (by omega)⟩
  · rename_i hu
    left; rw [hb, hu]; rfl
/-- What is laid after i numbers. -/
def quadPart (l : List ByteArray) (i : Nat) : List Int := mapd ++ ((l.take i).map octV ++ List.replicate (4 - i) 0)
theorem octS_rng {t : ByteArray} {v : Int} (h : octS t = some v) : 0 ≤ v ∧ v ≤ 255 := by
  unfold octS at h
  split at h
  · rename_i u hu
    split at h
    · cases h
      refine ⟨?_, by assumption⟩
      unfold decS at hu
      split at hu
      · split at hu
        · cases hu; omega
        · cases hu
      · cases hu
    · cases h
  · cases h
theorem octV_rng (t : ByteArray) : 0 ≤ octV t ∧ octV t < 256 := by
  unfold octV
  cases h : octS t with
  | none => decide
  | some v => have := octS_rng h; simp; omega
theorem quadPart_ok {l : List ByteArray} (h4 : l.length = 4) {i : Nat} (hi : i ≤ 4) : isA (quadPart l i) := by
  refine ⟨by simp [quadPart, mapd, h4]; omega, fun x hx => ?_⟩
  rcases List.mem_append.1 hx with hx | hx
  · exact (by decide : ∀ y ∈ mapd, (0 : Int) ≤ y ∧ y < 256) x hx
  · rcases List.mem_append.1 hx with hx | hx
    · obtain ⟨t, _, rfl⟩ := List.mem_map.1 hx; exact octV_rng t
    · rw [(List.mem_replicate.1 hx).2]; decide
theorem quadPart_set {l : List ByteArray} {i : Nat} {t : ByteArray} (hi : i < 4) (h4 : l.length = 4) (ht : l[i]? = some t) : (quadPart l i).set (12 + i) (octV t) = quadPart l (i + 1) ∧ (quadPart l i)[12 + i]? = some 0 := by
  have hm : mapd.length = 12 := rfl
  have hl : ((l.take i).map octV).length = i := by simp; omega
  have hr : List.replicate (4 - i) (0 : Int) = 0 :: List.replicate (4 - (i + 1)) 0 := by rw [show 4 - i = (4 - (i + 1)) + 1 by omega, List.replicate_succ]
  unfold quadPart
  refine ⟨?_, ?_⟩
  · rw [List.set_append_right _ _ (by omega), hm, Nat.add_sub_cancel_left, List.set_append_right _ _ (by omega), hl, Nat.sub_self, hr, List.set_cons_zero, take_snoc ht, List.map_append, List.append_assoc]; rfl
  · rw [List.getElem?_append_right (by omega), hm, Nat.add_sub_cancel_left, List.getElem?_append_right (by omega), hl, Nat.sub_self, hr]; rfl
def okA (o : Option (List Int)) : List Int := o.getD zeroA
theorem quad_no {s : ByteArray} {l : List ByteArray} (hl : pieces s dotB = l) (h : l.length ≠ 4 ∨ ∃ t ∈ l, octS t = none) : quadS s = none := by
  unfold quadS quadL
  rw [hl]
  refine if_neg ?_
  rintro ⟨h1, h2⟩
  rcases h with h | ⟨t, ht, hn⟩
  · exact h h1
  · have := List.all_eq_true.1 h2 t ht; rw [hn] at this; cases this
theorem quad_yes {s : ByteArray} {l : List ByteArray} (hl : pieces s dotB = l) (h4 : l.length = 4) (h : ∀ (j : Nat) t, l[j]? = some t → (octS t).isSome = true) : quadS s = some (quadPart l 4) := by
  unfold quadS quadL quadPart
  have hall : l.all (fun t => (octS t).isSome) = true := by
    rw [List.all_eq_true]
    intro t ht
    obtain ⟨j, hj, rfl⟩ := List.mem_iff_getElem.1 ht
    exact h j (l[j]) (List.getElem?_eq_getElem hj)
  rw [hl, if_pos ⟨h4, hall⟩, List.take_of_length_le (by omega)]
  simp
theorem numsA_one (a : List Int) : (nums .u8 a).toArray.all (·.oneCell') = true := all_oneCell_toArray (nums_one _ _)
theorem info42 {a : List Int} (ha : isA a) : (Tryz.prog.info? 42).map (·.size) = some (nums .u8 a).toArray.size := by
  have : (nums .u8 a).toArray.size = 16 := by simp [nums_length, ha.1]
  rw [this]; exact size42
theorem sizeA {a : List Int} (ha : isA a) : (nums .u8 a).toArray.size = 16 := by simp [nums_length, ha.1]
def QuadR (o : Option (List Int)) (e : Ending) : Prop := e = .returned (.tuple #[vA (okA o), .bool o.isSome])
set_option maxRecDepth 100000 in
set_option maxHeartbeats 1600000 in
/-- Not four pieces. -/
theorem quad_len {w : World} (E : Env w) {s : ByteArray} (hs : s.size < 4294967281) {l : List ByteArray} (hl : pieces s dotB = l) (h4 : l.length ≠ 4) : Calls Tryz.prog 101 #[.string s] w fun e w' => QuadR (quadS s) e ∧ Below w.heap.size w w' := by
  rw [quad_no hl (.inl h4)]
  have bel0 : Below w.heap.size w (w.alloc (oA zeroA)) := (Below.refl _ _).alloc (Nat.le_refl _) _
  have E1 := (E.go bel0).2
  obtain ⟨n, hn⟩ : ∃ n, l.length = n := ⟨_, rfl⟩
  have hne : ((n : Int) == 4) = false := by rw [hn] at h4; simp; omega
  have bel : Below w.heap.size w ((w.alloc (oA zeroA)).alloc (.cells (l.map Value.string).toArray 9)) := bel0.alloc (by simp) _
  have hb := Lib.hid (box21 w (oA zeroA) (.cells (l.map Value.string).toArray 9))
  go_enter Tryz.func101, Tryz.ntmps101
  go_wp2_with (first
    | (go_at_call 99; refine (split_n E1 hs (by decide) hl hn).mono ?_; rintro e w1 ⟨rfl, rfl⟩)
    | (refine wpList_load_mid rfl 42 (.tmp 2) rfl w.heap.size 0 rfl (nums .u8 zeroA) _ (row_load hb.out) Tryz.underlying42 rfl (info42 zeroA_ok) ?_)
    | (refine wpList_store_row rfl 42 (.tmp 2) (.tmp 14) rfl w.heap.size _ rfl rfl 42 (nums .u8 zeroA).toArray hb.out (info42 zeroA_ok) rfl (numsA_one _) ?_))
  refine bodyPost_ret (v := .tuple #[vA zeroA, .bool false]) ?_ rfl ⟨rfl, below_row bel (Nat.le_refl _) _⟩
  exact results_cell_tmp rfl _ _ rfl (BoxA.run (a := zeroA) (setRow_heap _ _ _ _ _ _ hb.out) zeroA_ok) rfl
theorem quad_cells : (nums .u8 zeroA).toArray.toList.take 0 ++ Lib.byteCells [0, 0, 0, 0, 0, 0, 0, 0, 0, 0, 255, 255] ++ (nums .u8 zeroA).toArray.toList.drop 12 = nums .u8 (quadPart [] 0) := by rfl
theorem quadPart_zero (l : List ByteArray) : quadPart l 0 = quadPart [] 0 := by simp [quadPart]
set_option maxRecDepth 100000 in
set_option maxHeartbeats 1600000 in
/-- Four pieces. -/
theorem quad_four {w : World} (E : Env w) {s : ByteArray} (hs : s.size < 4294967281) {l : List ByteArray} (hl : pieces s dotB = l) (h4 : l.length = 4) (hsz : ∀ t ∈ l, t.size ≤ 140737488351232) : Calls Tryz.prog 101 #[.string s] w fun e w' => QuadR (quadS s) e ∧ Below w.heap.size w w' := by
  have bel0 : Below w.heap.size w (w.alloc (oA zeroA)) := (Below.refl _ _).alloc (Nat.le_refl _) _
  have E1 := (E.go bel0).2
  have bel : Below w.heap.size w ((w.alloc (oA zeroA)).alloc (.cells (l.map Value.string).toArray 9)) := bel0.alloc (by simp) _
  have hb := Lib.hid (box21 w (oA zeroA) (.cells (l.map Value.string).toArray 9))
  have hp := Lib.hid (box22 w (oA zeroA) (.cells (l.map Value.string).toArray 9))
  have hcp : (Builtin.copy_ #[150, 9] 3 #[.slice (some ⟨w.heap.size, 0, none⟩) 16 16, .string { data := #[0, 0, 0, 0, 0, 0, 0, 0, 0, 0, 255, 255] }]).run Tryz.prog ((w.alloc (oA zeroA)).alloc (.cells (l.map Value.string).toArray 9)) = .ok (.int .i64 12) (((w.alloc (oA zeroA)).alloc (.cells (l.map Value.string).toArray 9)).setRow w.heap.size (nums .u8 (quadPart l 0)).toArray) := by
    rw [Lib.run_copy_row_string _ 150 9 3 5 w.heap.size 0 16 16 _ _ 42 Tryz.underlying150 (by kernel_rfl) hb.out (by decide) (by decide), quadPart_zero]; rfl
  go_enter Tryz.func101, Tryz.ntmps101
  go_wp2_with (first
    | (go_at_call 99; refine (split_n E1 hs (by decide) hl h4).mono ?_; rintro e w1 ⟨rfl, rfl⟩))
  clear hcp
  go_loopw [19] (fun x wr => ∃ i : Nat, x = .int .i64 i ∧ i ≤ 4 ∧ (∀ (j : Nat) t, j < i → l[j]? = some t → (octS t).isSome = true) ∧ wr.heap[w.heap.size]? = some (oA (quadPart l i)) ∧ wr.heap[w.heap.size + 1]? = some (.cells (l.map Value.string).toArray 9 (0, 0)) ∧ Below w.heap.size w wr ∧ w.heap.size + 2 ≤ wr.heap.size) (fun x wr => 4 - (intOf x).toNat)
  case atStart =>
    refine ⟨0, rfl, by omega, fun j t h => by omega, setRow_heap _ _ _ _ _ _ hb.out, ?_, below_row bel (Nat.le_refl _) _, by simp⟩
    rw [setRow_other _ _ _ _ (by omega)]; exact hp.out
  case round =>
    obtain ⟨i, rfl, hi, hall, hr, hr2, bel2, hsz2⟩ := hrel
    clear hb hp bel bel0 E1
    by_cases hlt : i < 4
    · obtain ⟨t, ht⟩ := get_some (l := l) (j := i) (by omega)
      have htz := hsz t (List.mem_of_getElem? ht)
      have E2 := (E.go bel2).2
      have c0 : wr.cell? ⟨w.heap.size + 1, i, none⟩ = some (.string t) := (row_cell hr2).trans (by rw [List.getElem?_toArray, List.getElem?_map, ht]; rfl)
      cases ho : octS t with
      | none =>
        have hq := quad_no hl (.inr ⟨t, List.mem_of_getElem? ht, ho⟩)
        replace hq := Lib.hid hq
        replace hr := Lib.hid hr
        replace hr2 := Lib.hid hr2
        replace hall := Lib.hid hall
        go_wp2_with (first
          | (go_at_call 124; refine (dec_no E2 htz ho).mono ?_; rintro e w1 ⟨⟨n, b, rfl, hb⟩, bel3⟩; have hr3 := Lib.hid (Below.box hr.out bel3 (by omega)); have bel4 := bel2.trans (bel3.mono (by omega)); rcases hb with hb | ⟨hb, hgt⟩ <;> subst hb)
          | (refine wpList_store_row rfl 42 (.tmp 2) (.tmp 35) rfl w.heap.size (nums .u8 zeroA).toArray rfl rfl 42 (nums .u8 (quadPart l i)).toArray hr3.out (info42 zeroA_ok) (by rw [sizeA (quadPart_ok h4 hi), sizeA zeroA_ok]) (numsA_one _) ?_))
        all_goals
          refine bodyPost_ret (v := .tuple #[vA zeroA, .bool false]) ?_ rfl ⟨by unfold QuadR; rw [hq.out]; rfl, below_row bel4 (Nat.le_refl _) _⟩
          exact results_cell_tmp rfl _ _ rfl (BoxA.run (a := zeroA) (setRow_heap _ _ _ _ _ _ hr3.out) zeroA_ok) rfl
      | some v =>
        obtain ⟨v0, v1⟩ := octS_rng ho
        have hov : octV t = v := by unfold octV; rw [ho]; rfl
        obtain ⟨st1, st2⟩ := quadPart_set hlt h4 ht
        rw [hov] at st1
        have hall2 : ∀ (j : Nat) u, j < i + 1 → l[j]? = some u → (octS u).isSome = true := fun j u hj hu => by
          by_cases hji : j = i
          · subst hji; rw [ht] at hu; cases hu; rw [ho]; rfl
          · exact hall j u (by omega) hu
        have g1 : decide (255 < v) = false := decide_eq_false (by omega)
        have wr1 : IntKind.i64.wrap (12 + (i : Int)) = 12 + i := IntWalk.i64_in _ (by omega)
        have wr2 : IntKind.u8.wrap v = v := IntWalk.u8_in _ (by omega)
        replace hr := Lib.hid hr
        replace hr2 := Lib.hid hr2
        replace hall := Lib.hid hall
        replace hall2 := Lib.hid hall2
        replace st1 := Lib.hid st1
        replace st2 := Lib.hid st2
        go_wp2_with (first
          | (go_at_call 124; refine (dec_oct E2 htz ho).mono ?_; rintro e w1 ⟨rfl, bel3⟩; have hr3 := Lib.hid (Below.box hr.out bel3 (by omega)); have hr4 := Lib.hid (Below.box hr2.out bel3 (by omega)); have bel4 := bel2.trans (bel3.mono (by omega)); have c1 : w1.cell? ⟨w.heap.size, 12 + i, none⟩ = some (.int .u8 0) := (row_cell hr3.out).trans (by rw [List.getElem?_toArray]; exact nums_get st2.out); have f1 : w1.frozen? ⟨w.heap.size, 12 + i, none⟩ = false := row_free hr3.out))
        have fr1 := Fr.setCell (S := fun b => b = w.heap.size) (Fr.refl _ w1) (p := ⟨w.heap.size, 12 + i, none⟩) (.inl rfl) (.int .u8 v)
        refine ⟨⟨i + 1, by go_num, by omega, hall2.out, row_set hr3.out (i := 12 + i) (cs' := (nums .u8 (quadPart l (i + 1))).toArray) (.int .u8 v) (by rw [List.setIfInBounds_toArray, nums_set, st1.out]), fr1.obj hr4.out (by omega), bel4.trans (fr1.belowS (fun b hb => Nat.le_of_eq hb.symm) bel4.size), ?_⟩, ?_⟩
        · have := bel3.size
          have := fr1.size
          omega
        · simp [intOf]; omega
    · obtain rfl : i = 4 := by omega
      have hq := Lib.hid (quad_yes hl h4 (fun j t ht => hall j t (by have := (List.getElem?_eq_some_iff.1 ht).1; omega) ht))
      have ok := quadPart_ok h4 (Nat.le_refl 4)
      replace ok := Lib.hid ok
      replace hr := Lib.hid hr
      replace hr2 := Lib.hid hr2
      replace hall := Lib.hid hall
      go_wp2_with (first
        | (refine wpList_load_mid rfl 42 (.tmp 2) rfl w.heap.size 0 rfl (nums .u8 (quadPart l 4)) _ (row_load hr.out) Tryz.underlying42 rfl (info42 ok.out) ?_)
        | (refine wpList_store_row rfl 42 (.tmp 2) (.tmp 42) rfl w.heap.size _ rfl rfl 42 (nums .u8 (quadPart l 4)).toArray hr.out (info42 ok.out) rfl (numsA_one _) ?_))
      refine bodyPost_ret (v := .tuple #[vA (quadPart l 4), .bool true]) ?_ rfl ⟨by unfold QuadR; rw [hq.out]; rfl, below_row bel2 (Nat.le_refl _) _⟩
      exact results_cell_tmp rfl _ _ rfl (BoxA.run (a := quadPart l 4) (setRow_heap _ _ _ _ _ _ hr.out) ok.out) rfl
/-- quad. -/
theorem quad_any {w : World} (E : Env w) {s : ByteArray} (hs : s.size < 4294967281) (hsz : ∀ t ∈ pieces s dotB, t.size ≤ 140737488351232) : Calls Tryz.prog 101 #[.string s] w fun e w' => QuadR (quadS s) e ∧ Below w.heap.size w w' := by
  by_cases h4 : (pieces s dotB).length = 4
  · exact quad_four E hs rfl h4 hsz
  · exact quad_len E hs rfl h4
end Go.Proofs.YtnljjlaececnkaaGreatDoor
