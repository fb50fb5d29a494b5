/-
  Parse, ParsePrefix. Condition: the variables hold what their initialisers laid; a text is no longer than memory has room for.
-/
import Derived.Test.YtnljjlaececnkaaGreatDoorQ
namespace Go.Proofs.YtnljjlaececnkaaGreatDoor
open Go.RowKit
set_option linter.unusedVariables false
set_option linter.unusedSimpArgs false
theorem quadS_ok {s : ByteArray} {a : List Int} (h : quadS s = some a) : isA a := by
  unfold quadS quadL at h
  split at h
  · rename_i hc
    cases h
    have := quadPart_ok (l := pieces s dotB) hc.1 (Nat.le_refl 4)
    unfold quadPart at this
    rw [List.take_of_length_le (by omega)] at this
    simpa using this
  · cases h
theorem colS_ok {s : ByteArray} {a : List Int} (h : colS s = some a) : isA a := by
  obtain ⟨l, r, gap, hcut⟩ : ∃ l r gap, Lib.cut s.data.toList gapB.data.toList = (l, r, gap) := ⟨_, _, _, rfl⟩
  obtain ⟨hl, hr, hgap⟩ := cut_lens hcut
  cases h1 : grpsS ⟨l.toArray⟩ with
  | none => rw [col_no hcut (.inl h1)] at h; cases h
  | some b =>
    cases h2 : grpsS ⟨r.toArray⟩ with
    | none => rw [col_no hcut (.inr h2)] at h; cases h
    | some c =>
      rw [col_yes hcut h1 h2] at h
      split at h
      · cases h
      · rename_i hn
        cases h
        refine fill_ok ?_ (grp_rng h1) (grp_rng h2)
        cases gap with
        | true =>
          have : ¬ 14 < b.length + c.length := fun h => hn (.inr ⟨rfl, h⟩)
          omega
        | false =>
          have h16 : ¬ b.length ≠ 16 := fun h => hn (.inl ⟨rfl, h⟩)
          have : c = [] := by
            rw [hgap rfl] at h2
            have e : grpsS ⟨([] : List UInt8).toArray⟩ = some [] := rfl
            rw [e] at h2; cases h2; rfl
          subst this
          simp; omega
theorem okA_quad (s : ByteArray) : isA (okA (quadS s)) := by
  cases h : quadS s with
  | none => exact zeroA_ok
  | some a => exact quadS_ok h
theorem okA_col (s : ByteArray) : isA (okA (colS s)) := by
  cases h : colS s with
  | none => exact zeroA_ok
  | some a => exact colS_ok h
def okB (o : Option (List Int)) : Bool := o.isSome
theorem quad_is {w : World} (E : Env w) {s : ByteArray} (hs : s.size < 4294967281) {a : List Int} {b : Bool} (h : okA (quadS s) = a ∧ (quadS s).isSome = b) : Calls Tryz.prog 101 #[.string s] w fun e w' => e = .returned (.tuple #[.agg (nums .u8 a).toArray, .bool b]) ∧ Below w.heap.size w w' := by
  rw [← h.1, ← h.2]
  exact quad_any E hs (fun t ht => by have := (pieces_sum 46 s.size s (Nat.le_refl _)).1 t ht; omega)
theorem col_is {w : World} (E : Env w) {s : ByteArray} (hs : s.size < 4294967281) {a : List Int} {b : Bool} (h : okA (colS s) = a ∧ (colS s).isSome = b) : Calls Tryz.prog 102 #[.string s] w fun e w' => e = .returned (.tuple #[.agg (nums .u8 a).toArray, .bool b]) ∧ Below w.heap.size w w' := by
  rw [← h.1, ← h.2]
  exact col_any E hs
/-- What Parse answers. -/
def ParseR (o : Option (List Int)) (e : Ending) : Prop := e = .returned (.tuple #[vA (okA o), .int .i64 (if o.isSome then 0 else 20)])
set_option maxRecDepth 100000 in
set_option maxHeartbeats 1600000 in
theorem parse_quad {w : World} (E : Env w) {s : ByteArray} (hs : s.size < 4294967281) {a : List Int} (h : quadS s = some a) : Calls Tryz.prog 29 #[.string s] w fun e w' => ParseR (parseS s) e ∧ Below w.heap.size w w' := by
  have hp : parseS s = some a := by unfold parseS; rw [h]
  have ok := quadS_ok h
  have bel0 : Below w.heap.size w (w.alloc (oA zeroA)) := (Below.refl _ _).alloc (Nat.le_refl _) _
  have E1 := (E.go bel0).2
  have hb0 := Lib.hid (box1 w (oA zeroA))
  have hq := quad_is E1 hs (a := a) (b := true) (by rw [h]; exact ⟨rfl, rfl⟩)
  replace hp := Lib.hid hp
  replace ok := Lib.hid ok
  go_enter Tryz.func29, Tryz.ntmps29
  go_wp2_with (first
    | (go_at_call 101; refine hq.mono ?_; rintro e w1 ⟨rfl, bel1⟩; have bel2 := bel0.trans (bel1.mono bel0.size); have hb1 := Lib.hid (Below.box hb0.out bel1 (by simp)); have hb3 := Lib.hid (box1 w1 (oA a)); have hb2 := Lib.hid (Below.box hb1.out ((Below.refl w1.heap.size w1).alloc (Nat.le_refl _) (oA a)) (lt_of_obj hb1.out)); have bel3 := bel2.alloc (by have := bel2.size; omega) (oA a))
    | (refine wpList_store_new rfl 42 (.tmp 4) (.tmp 11) rfl rfl rfl (info42 ok.out) (by rw [sizeA ok.out]; rfl) (numsA_one _) ?_)
    | (refine wpList_load_mid rfl 42 (.tmp 4) rfl w1.heap.size 0 rfl (nums .u8 a) _ (row_load hb3.out) Tryz.underlying42 rfl (info42 ok.out) ?_)
    | (refine wpList_store_row rfl 42 (.tmp 2) (.tmp 14) rfl w.heap.size _ rfl rfl 42 (nums .u8 zeroA).toArray hb2.out (info42 ok.out) (by rw [sizeA zeroA_ok, sizeA ok.out]) (numsA_one _) ?_))
  refine bodyPost_ret (v := .tuple #[vA a, .int .i64 0]) ?_ rfl ⟨by unfold ParseR; rw [hp.out]; rfl, below_row bel3 (Nat.le_refl _) _⟩
  exact results_cell_tmp rfl _ _ rfl (BoxA.run (a := a) (setRow_heap _ _ _ _ _ _ hb2.out) ok.out) rfl
set_option maxRecDepth 100000 in
set_option maxHeartbeats 1600000 in
theorem parse_col {w : World} (E : Env w) {s : ByteArray} (hs : s.size < 4294967281) {a : List Int} (hq0 : quadS s = none) (h : colS s = some a) : Calls Tryz.prog 29 #[.string s] w fun e w' => ParseR (parseS s) e ∧ Below w.heap.size w w' := by
  have hp : parseS s = some a := by unfold parseS; rw [hq0, h]
  have ok := colS_ok h
  have bel0 : Below w.heap.size w (w.alloc (oA zeroA)) := (Below.refl _ _).alloc (Nat.le_refl _) _
  have E1 := (E.go bel0).2
  have hb0 := Lib.hid (box1 w (oA zeroA))
  have hq := quad_is E1 hs (a := zeroA) (b := false) (by rw [hq0]; exact ⟨rfl, rfl⟩)
  have hc := fun {w : World} (E : Env w) => col_is E hs (a := a) (b := true) (by rw [h]; exact ⟨rfl, rfl⟩)
  replace hp := Lib.hid hp
  replace ok := Lib.hid ok
  clear h hq0
  go_enter Tryz.func29, Tryz.ntmps29
  go_wp2_with (first
    | (go_at_call 101; refine hq.mono ?_; clear hq; rintro e w1 ⟨rfl, bel1⟩; have bel2 := bel0.trans (bel1.mono bel0.size); have hb1 := Lib.hid (Below.box hb0.out bel1 (by simp)); have hb2 := Lib.hid (Below.box hb1.out ((Below.refl w1.heap.size w1).alloc (Nat.le_refl _) (oA zeroA)) (lt_of_obj hb1.out)); have bel3 := bel2.alloc (by have := bel2.size; omega) (oA zeroA); have E2 := (E.go bel3).2)
    | (refine wpList_store_new rfl 42 (.tmp 4) (.tmp 11) rfl rfl rfl (info42 zeroA_ok) rfl (numsA_one _) ?_)
    | (go_at_call 102; refine (hc E2).mono ?_; clear hc; rintro e w2 ⟨rfl, bel4⟩; have bel5 := bel3.trans (bel4.mono bel3.size); have hb3 := Lib.hid (Below.box hb2.out bel4 (lt_of_obj hb2.out)); have hb5 := Lib.hid (box1 w2 (oA a)); have hb4 := Lib.hid (Below.box hb3.out ((Below.refl w2.heap.size w2).alloc (Nat.le_refl _) (oA a)) (lt_of_obj hb3.out)); have bel6 := bel5.alloc (by have := bel5.size; omega) (oA a))
    | (refine wpList_store_new rfl 42 (.tmp 6) (.tmp 18) rfl rfl rfl (info42 ok.out) (by rw [sizeA ok.out]; rfl) (numsA_one _) ?_)
    | (refine wpList_load_mid rfl 42 (.tmp 6) rfl w2.heap.size 0 rfl (nums .u8 a) _ (row_load hb5.out) Tryz.underlying42 rfl (info42 ok.out) ?_)
    | (refine wpList_store_row rfl 42 (.tmp 2) (.tmp 21) rfl w.heap.size _ rfl rfl 42 (nums .u8 zeroA).toArray hb4.out (info42 ok.out) (by rw [sizeA zeroA_ok, sizeA ok.out]) (numsA_one _) ?_))
  refine bodyPost_ret (v := .tuple #[vA a, .int .i64 0]) ?_ rfl ⟨by unfold ParseR; rw [hp.out]; rfl, below_row bel6 (Nat.le_refl _) _⟩
  exact results_cell_tmp rfl _ _ rfl (BoxA.run (a := a) (setRow_heap _ _ _ _ _ _ hb4.out) ok.out) rfl
set_option maxRecDepth 100000 in
set_option maxHeartbeats 1600000 in
theorem parse_no {w : World} (E : Env w) {s : ByteArray} (hs : s.size < 4294967281) (hq0 : quadS s = none) (h : colS s = none) : Calls Tryz.prog 29 #[.string s] w fun e w' => ParseR (parseS s) e ∧ Below w.heap.size w w' := by
  have hp : parseS s = none := by unfold parseS; rw [hq0, h]
  have bel0 : Below w.heap.size w (w.alloc (oA zeroA)) := (Below.refl _ _).alloc (Nat.le_refl _) _
  have E1 := (E.go bel0).2
  have hb0 := Lib.hid (box1 w (oA zeroA))
  have hq := quad_is E1 hs (a := zeroA) (b := false) (by rw [hq0]; exact ⟨rfl, rfl⟩)
  have hc := fun {w : World} (E : Env w) => col_is E hs (a := zeroA) (b := false) (by rw [h]; exact ⟨rfl, rfl⟩)
  replace hp := Lib.hid hp
  clear h hq0
  go_enter Tryz.func29, Tryz.ntmps29
  go_wp2_with (first
    | (go_at_call 101; refine hq.mono ?_; clear hq; rintro e w1 ⟨rfl, bel1⟩; have bel2 := bel0.trans (bel1.mono bel0.size); have hb1 := Lib.hid (Below.box hb0.out bel1 (by simp)); have hb2 := Lib.hid (Below.box hb1.out ((Below.refl w1.heap.size w1).alloc (Nat.le_refl _) (oA zeroA)) (lt_of_obj hb1.out)); have bel3 := bel2.alloc (by have := bel2.size; omega) (oA zeroA); have E2 := (E.go bel3).2)
    | (refine wpList_store_new rfl 42 (.tmp 4) (.tmp 11) rfl rfl rfl (info42 zeroA_ok) rfl (numsA_one _) ?_)
    | (go_at_call 102; refine (hc E2).mono ?_; clear hc; rintro e w2 ⟨rfl, bel4⟩; have bel5 := bel3.trans (bel4.mono bel3.size); have hb3 := Lib.hid (Below.box hb2.out bel4 (lt_of_obj hb2.out)); have hb4 := Lib.hid (Below.box hb3.out ((Below.refl w2.heap.size w2).alloc (Nat.le_refl _) (oA zeroA)) (lt_of_obj hb3.out)); have bel6 := bel5.alloc (by have := bel5.size; omega) (oA zeroA))
    | (refine wpList_store_new rfl 42 (.tmp 6) (.tmp 18) rfl rfl rfl (info42 zeroA_ok) rfl (numsA_one _) ?_)
    | (refine wpList_store_row rfl 42 (.tmp 2) (.tmp 22) rfl w.heap.size (nums .u8 zeroA).toArray rfl rfl 42 (nums .u8 zeroA).toArray hb4.out (info42 zeroA_ok) rfl (numsA_one _) ?_))
  refine bodyPost_ret (v := .tuple #[vA zeroA, .int .i64 20]) ?_ rfl ⟨by unfold ParseR; rw [hp.out]; rfl, below_row bel6 (Nat.le_refl _) _⟩
  exact results_cell_tmp rfl _ _ rfl (BoxA.run (a := zeroA) (setRow_heap _ _ _ _ _ _ hb4.out) zeroA_ok) rfl
/-- Parse. -/
theorem parse_any {w : World} (E : Env w) {s : ByteArray} (hs : s.size < 4294967281) : Calls Tryz.prog 29 #[.string s] w fun e w' => ParseR (parseS s) e ∧ Below w.heap.size w w' := by
  cases h : quadS s with
  | some a => exact parse_quad E hs h
  | none =>
    cases h2 : colS s with
    | some a => exact parse_col E hs h h2
    | none => exact parse_no E hs h h2
end Go.Proofs.YtnljjlaececnkaaGreatDoor
