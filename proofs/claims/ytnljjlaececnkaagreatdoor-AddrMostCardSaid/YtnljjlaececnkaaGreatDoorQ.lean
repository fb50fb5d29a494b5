/-
  colons: groups as an address; Parse. Condition: the variables hold what their initialisers laid; a text is no longer than memory has room for.
-/
import Derived.Test.YtnljjlaececnkaaGreatDoorO
namespace Go.Proofs.YtnljjlaececnkaaGreatDoor
open Go.RowKit
set_option linter.unusedVariables false
set_option linter.unusedSimpArgs false
theorem pieces_sum (c : UInt8) : ∀ (k : Nat) (s : ByteArray), s.size ≤ k → (∀ t ∈ pieces s ⟨#[c]⟩, t.size ≤ s.size) ∧ (pieces s ⟨#[c]⟩).length ≤ s.size + 1
  | 0, s, hk => by
    have h : Lib.indexByte s.data.toList c = -1 := by
      rcases Classical.em (Lib.indexByte s.data.toList c = -1) with h | h
      · exact h
      · obtain ⟨i, _, h2⟩ := index_hit h; omega
    rw [pieces_miss h]
    exact ⟨fun t ht => by rw [List.mem_singleton.1 ht]; exact Nat.le_refl _, by simp⟩
  | k + 1, s, hk => by
    by_cases h : Lib.indexByte s.data.toList c = -1
    · rw [pieces_miss h]
      exact ⟨fun t ht => by rw [List.mem_singleton.1 ht]; exact Nat.le_refl _, by simp⟩
    · obtain ⟨i, h1, h2⟩ := index_hit h
      have hs : (s.extract (i + 1) s.size).size = s.size - (i + 1) := by rw [ByteArray.size_extract]; omega
      obtain ⟨a1, a2⟩ := pieces_sum c k (s.extract (i + 1) s.size) (by omega)
      rw [pieces_hit h1]
      refine ⟨fun t ht => ?_, by simp; omega⟩
      rcases List.mem_cons.1 ht with rfl | ht
      · rw [ByteArray.size_extract]; omega
      · have := a1 t ht; omega
set_option maxRecDepth 100000 in
set_option maxHeartbeats 400000 in
theorem grps_empty {w : World} : Calls Tryz.prog 162 #[.string ⟨#[]⟩] w fun e w' => GrpR w ⟨#[]⟩ e w' ∧ Below w.heap.size w w' := by
  have p1 := (Boxed.new w 150 (.slice none 0 0)).alloc (.cells #[.bool true] 4)
  have p2 := Boxed.new (w.alloc (.cells #[.slice none 0 0] 150)) 4 (.bool true)
  have bel : Below w.heap.size w ((w.alloc (.cells #[.slice none 0 0] 150)).alloc (.cells #[.bool true] 4)) := ((Below.refl _ _).alloc (Nat.le_refl _) _).alloc (by simp) _
  rw [World.size_alloc] at p2
  go_enter Tryz.func162, Tryz.ntmps162
  go_wp2
  exact bodyPost_ret (v := .tuple #[.slice none 0 0, .bool true]) (results_cells2 rfl _ _ rfl (loadVar_slice Tryz.underlying150 p1.cell) rfl (loadVar_bool Tryz.underlying4 p2.cell)) rfl ⟨⟨_, rfl, World.ownsRow_nil _ _ _ _⟩, bel⟩
/-- groups. -/
theorem grps_any {w : World} (E : Env w) (s : ByteArray) (hs : s.size < 4294967281) : Calls Tryz.prog 162 #[.string s] w fun e w' => GrpR w s e w' ∧ Below w.heap.size w w' := by
  by_cases h0 : s.size = 0
  · obtain rfl : s = ⟨#[]⟩ := by
      obtain ⟨⟨l⟩⟩ := s
      cases l with
      | nil => rfl
      | cons x l => simp [ByteArray.size] at h0
    exact grps_empty
  · obtain ⟨h1, h2⟩ := pieces_sum 58 s.size s (Nat.le_refl _)
    exact grps_some E s h0 hs (fun t ht => by have := h1 t ht; omega) (by omega)
/-- A copy of bytes of one's own into an array. -/
theorem copy_any {W : World} {n0 k g o dLen dCap : Nat} {v : Value} {xs a : List Int} (hv : W.ownsRow n0 5 1 v k (nums .u8 xs)) (hg : W.heap[g]? = some (oA a)) (hd : k ≤ dLen) (ho : o + k ≤ a.length) :
    (Builtin.copy_ #[150, 150] 3 #[.slice (some ⟨g, o, none⟩) dLen dCap, v]).run Tryz.prog W = .ok (.int .i64 k) (W.setRow g (nums .u8 (a.take o ++ xs ++ a.drop (o + k))).toArray) := by
  have hl : (nums .u8 xs).length = k := by have := hv.1; omega
  have hxl : xs.length = k := by rw [nums_length] at hl; exact hl
  obtain ⟨_, ⟨rfl, rfl⟩ | ⟨g', cap, cur, rfl, hb, hh, hcap, hmax, hsz, ht⟩⟩ := id hv
  · obtain rfl : xs = [] := List.eq_nil_of_length_eq_zero hxl
    rw [run_copy_none W 150 150 3 5 (some ⟨g, o, none⟩) none dLen dCap 0 0 Tryz.underlying150 (by kernel_rfl) (by simp), List.append_nil, Nat.add_zero, List.take_append_drop, setRow_self W g _ 42 (0, 0) hg]
    rfl
  · rw [run_copy_row Tryz.prog W 150 150 3 5 g o dLen dCap ⟨g', 0, none⟩ k cap _ 42 (nums .u8 xs) Tryz.underlying150 (by kernel_rfl) hg (by rw [hl]; exact (Nat.min_eq_left hd).symm) (fun j u hj => hv.cells rfl j u hj) (by rw [hl]; simpa [nums_length] using ho) (nums_one _ _)]
    have e1 : (nums .u8 a).toArray.toList.take o = nums .u8 (a.take o) := by simp [nums, List.map_take]
    have e2 : (nums .u8 a).toArray.toList.drop (o + (nums .u8 xs).length) = nums .u8 (a.drop (o + k)) := by rw [hl]; simp [nums, List.map_drop]
    rw [e1, e2, nums_append, nums_append, hl]; rfl
theorem cut_any {w : World} (E : Env w) {s sep : ByteArray} {l r : List UInt8} {gap : Bool} (hs : s.size < 4294967281) (h : Lib.cut s.data.toList sep.data.toList = (l, r, gap)) :
    Calls Tryz.prog 123 #[.string s, .string sep] w fun e w' => e = .returned (.tuple #[.string ⟨l.toArray⟩, .string ⟨r.toArray⟩, .bool gap]) ∧ Below w.heap.size w w' := by
  obtain ⟨m, hm⟩ := (E.go (Below.refl _ _)).1.mx
  refine (Tryz.strings_Cut s sep m w hs hm).mono fun e w' ⟨he, n, hw⟩ => ⟨by rw [he, h], ?_⟩
  rw [hw]; exact ⟨rfl, rfl, rfl, Nat.le_refl _, fun _ _ => rfl⟩
theorem ownR_slice {W : World} {n0 e k : Nat} {v : Value} {xs : List Value} (h : W.ownsRow n0 e 1 v k xs) : ∃ A c, v = .slice A k c := by
  obtain ⟨_, ⟨rfl, rfl⟩ | ⟨g, cap, cur, rfl, _⟩⟩ := h
  · exact ⟨_, _, rfl⟩
  · exact ⟨_, _, rfl⟩
theorem grp_rng {s : ByteArray} {l : List Int} (h : grpsS s = some l) : ∀ x ∈ l, 0 ≤ x ∧ x < 256 := by
  have key : ∀ (ps : List ByteArray), (∀ t ∈ ps, (grpS t).isSome = true) → ∀ x ∈ (ps.map grpV).flatten, 0 ≤ x ∧ x < 256 := by
    intro ps hp x hx
    obtain ⟨l, hl, hxl⟩ := List.mem_flatten.1 hx
    obtain ⟨t, ht, rfl⟩ := List.mem_map.1 hl
    obtain ⟨u, hu⟩ := Option.isSome_iff_exists.1 (hp t ht)
    obtain ⟨-, -, -, hu2, -⟩ := grp_some hu
    simp [grpV, hu] at hxl
    rcases hxl with rfl | rfl <;> omega
  unfold grpsS grpsL at h
  split at h
  · cases h; intro x hx; cases hx
  · split at h
    · rename_i hall
      cases h
      exact key _ (fun t ht => List.all_eq_true.1 hall t ht)
    · cases h
/-- The address that groups fill. -/
def fillA (b c : List Int) : List Int := b ++ List.replicate (16 - b.length - c.length) 0 ++ c
theorem fill_ok {b c : List Int} (h : b.length + c.length ≤ 16) (hb : ∀ x ∈ b, 0 ≤ x ∧ x < 256) (hc : ∀ x ∈ c, 0 ≤ x ∧ x < 256) : isA (fillA b c) := by
  refine ⟨by simp [fillA]; omega, fun x hx => ?_⟩
  rcases List.mem_append.1 hx with hx | hx
  · rcases List.mem_append.1 hx with hx | hx
    · exact hb x hx
    · rw [(List.mem_replicate.1 hx).2]; decide
  · exact hc x hx
theorem fill_one {b : List Int} (h : b.length ≤ 16) : zeroA.take 0 ++ b ++ zeroA.drop (0 + b.length) = b ++ List.replicate (16 - b.length) 0 := by
  rw [zeroA, Nat.zero_add, List.drop_replicate, List.take_zero, List.nil_append]
theorem fill_two {b c : List Int} (h : b.length + c.length ≤ 16) : (b ++ List.replicate (16 - b.length) (0 : Int)).take (16 - c.length) ++ c ++ (b ++ List.replicate (16 - b.length) (0 : Int)).drop (16 - c.length + c.length) = fillA b c := by
  have h1 : (b ++ List.replicate (16 - b.length) (0 : Int)).length = 16 := by simp; omega
  rw [List.drop_of_length_le (by omega), List.append_nil, List.take_append, List.take_of_length_le (by omega), List.take_replicate, fillA, show min (16 - c.length - b.length) (16 - b.length) = 16 - b.length - c.length by omega]
theorem col_no {s : ByteArray} {l r : List UInt8} {gap : Bool} (h : Lib.cut s.data.toList gapB.data.toList = (l, r, gap)) (hn : grpsS ⟨l.toArray⟩ = none ∨ grpsS ⟨r.toArray⟩ = none) : colS s = none := by
  unfold colS
  rw [h]
  rcases hn with hn | hn
  · simp only [hn]
  · simp only [hn]
    cases grpsS ⟨l.toArray⟩ <;> rfl
theorem col_yes {s : ByteArray} {l r : List UInt8} {gap : Bool} {b c : List Int} (h : Lib.cut s.data.toList gapB.data.toList = (l, r, gap)) (hb : grpsS ⟨l.toArray⟩ = some b) (hc : grpsS ⟨r.toArray⟩ = some c) :
    colS s = if (gap = false ∧ b.length ≠ 16) ∨ (gap = true ∧ 14 < b.length + c.length) then none else some (fillA b c) := by
  unfold colS
  rw [h]
  simp only [hb, hc, fillA]
theorem cut_lens {s : ByteArray} {l r : List UInt8} {gap : Bool} (h : Lib.cut s.data.toList gapB.data.toList = (l, r, gap)) : l.length ≤ s.size ∧ r.length ≤ s.size ∧ (gap = false → r = []) := by
  have hl : s.data.toList.length = s.size := Array.length_toList
  unfold Lib.cut at h
  split at h
  · cases h
    exact ⟨by rw [List.length_take]; omega, by rw [List.length_drop]; omega, fun h => by cases h⟩
  · cases h
    exact ⟨by omega, Nat.zero_le _, fun _ => rfl⟩
theorem grps_is {w : World} (E : Env w) {s : ByteArray} {b : List Int} {n : Nat} (hs : s.size < 4294967281) (h : grpsS s = some b) (hn : b.length = n) : Calls Tryz.prog 162 #[.string s] w fun e w' => ∃ A c, e = .returned (.tuple #[.slice A n c, .bool true]) ∧ w'.ownsRow w.heap.size 5 1 (.slice A n c) n (nums .u8 b) ∧ Below w.heap.size w w' := by
  refine (grps_any E s hs).mono fun e w' ⟨⟨v, he, ho⟩, bel⟩ => ?_
  rw [h] at he ho
  obtain ⟨A, c, rfl⟩ := ownR_slice ho
  rw [← hn]
  exact ⟨A, c, he, ho, bel⟩
theorem grps_isnt {w : World} (E : Env w) {s : ByteArray} (hs : s.size < 4294967281) (h : grpsS s = none) : Calls Tryz.prog 162 #[.string s] w fun e w' => ∃ v, e = .returned (.tuple #[v, .bool false]) ∧ Below w.heap.size w w' := by
  refine (grps_any E s hs).mono fun e w' ⟨⟨v, he, ho⟩, bel⟩ => ?_
  rw [h] at he
  exact ⟨v, he, bel⟩
theorem grps_some_or {w : World} (E : Env w) {s : ByteArray} (hs : s.size < 4294967281) : Calls Tryz.prog 162 #[.string s] w fun e w' => ∃ v x, e = .returned (.tuple #[v, .bool x]) ∧ Below w.heap.size w w' :=
  (grps_any E s hs).mono fun e w' ⟨⟨v, he, ho⟩, bel⟩ => ⟨v, _, he, bel⟩
set_option maxRecDepth 100000 in
set_option maxHeartbeats 1600000 in
theorem col_one {w : World} (E : Env w) {s : ByteArray} (hs : s.size < 4294967281) {l r : List UInt8} {gap : Bool} (hcut : Lib.cut s.data.toList gapB.data.toList = (l, r, gap)) (h1 : grpsS ⟨l.toArray⟩ = none) : Calls Tryz.prog 102 #[.string s] w fun e w' => QuadR (colS s) e ∧ Below w.heap.size w w' := by
  have hno := col_no hcut (.inl h1)
  obtain ⟨hl, hr, hgap⟩ := cut_lens hcut
  have hl2 : (⟨l.toArray⟩ : ByteArray).size < 4294967281 := by show l.toArray.size < _; simp; omega
  have hr2 : (⟨r.toArray⟩ : ByteArray).size < 4294967281 := by show r.toArray.size < _; simp; omega
  have hc := fun {w : World} (E : Env w) => cut_any E hs hcut
  have bel0 : Below w.heap.size w (w.alloc (oA zeroA)) := (Below.refl _ _).alloc (Nat.le_refl _) _
  have E1 := (E.go bel0).2
  have hb0 := Lib.hid (box1 w (oA zeroA))
  clear hcut hl hr hgap
  generalize (⟨l.toArray⟩ : ByteArray) = L at *
  generalize (⟨r.toArray⟩ : ByteArray) = R at *
  go_enter Tryz.func102, Tryz.ntmps102
  go_wp2_with (first
    | (go_at_call 123; refine (hc E1).mono ?_; clear hc; rintro e w1 ⟨rfl, bel1⟩; have E2 := (E1.go bel1).2; have hb1 := Lib.hid (Below.box hb0.out bel1 (by simp)))
    | (go_at_call 162; refine (grps_isnt E2 hl2 h1).mono ?_; clear hl2; rintro e w2 ⟨v1, rfl, bel2⟩; have E3 := (E2.go bel2).2; have hb2 := Lib.hid (Below.box hb1.out bel2 (lt_of_obj hb1.out)))
    | (go_at_call 162; refine (grps_some_or E3 hr2).mono ?_; clear hr2; rintro e w3 ⟨v2, x2, rfl, bel3⟩; have hb3 := Lib.hid (Below.box hb2.out bel3 (lt_of_obj hb2.out)); have bel4 := ((bel0.trans (bel1.mono bel0.size)).trans (bel2.mono (Nat.le_trans bel0.size bel1.size))).trans (bel3.mono (Nat.le_trans bel0.size (Nat.le_trans bel1.size bel2.size))))
    | (refine wpList_load_mid rfl 42 (.tmp 2) rfl w.heap.size 0 rfl (nums .u8 zeroA) _ (row_load hb3.out) Tryz.underlying42 rfl (info42 zeroA_ok) ?_)
    | (refine wpList_store_row rfl 42 (.tmp 2) (.tmp 33) rfl w.heap.size _ rfl rfl 42 (nums .u8 zeroA).toArray hb3.out (info42 zeroA_ok) rfl (numsA_one _) ?_))
  refine bodyPost_ret (v := .tuple #[vA zeroA, .bool false]) ?_ rfl ⟨by unfold QuadR; rw [hno]; rfl, below_row bel4 (Nat.le_refl _) _⟩
  exact results_cell_tmp rfl _ _ rfl (BoxA.run (a := zeroA) (setRow_heap _ _ _ _ _ _ hb3.out) zeroA_ok) rfl
set_option maxRecDepth 100000 in
set_option maxHeartbeats 1600000 in
theorem col_two {w : World} (E : Env w) {s : ByteArray} (hs : s.size < 4294967281) {l r : List UInt8} {gap : Bool} (hcut : Lib.cut s.data.toList gapB.data.toList = (l, r, gap)) {b : List Int} (h1 : grpsS ⟨l.toArray⟩ = some b) (h2 : grpsS ⟨r.toArray⟩ = none) : Calls Tryz.prog 102 #[.string s] w fun e w' => QuadR (colS s) e ∧ Below w.heap.size w w' := by
  have hno := col_no hcut (.inr h2)
  obtain ⟨hl, hr, hgap⟩ := cut_lens hcut
  have hl2 : (⟨l.toArray⟩ : ByteArray).size < 4294967281 := by show l.toArray.size < _; simp; omega
  have hr2 : (⟨r.toArray⟩ : ByteArray).size < 4294967281 := by show r.toArray.size < _; simp; omega
  have hc := fun {w : World} (E : Env w) => cut_any E hs hcut
  have bel0 : Below w.heap.size w (w.alloc (oA zeroA)) := (Below.refl _ _).alloc (Nat.le_refl _) _
  have E1 := (E.go bel0).2
  have hb0 := Lib.hid (box1 w (oA zeroA))
  clear hcut hl hr hgap
  generalize (⟨l.toArray⟩ : ByteArray) = L at *
  generalize (⟨r.toArray⟩ : ByteArray) = R at *
  go_enter Tryz.func102, Tryz.ntmps102
  go_wp2_with (first
    | (go_at_call 123; refine (hc E1).mono ?_; clear hc; rintro e w1 ⟨rfl, bel1⟩; have E2 := (E1.go bel1).2; have hb1 := Lib.hid (Below.box hb0.out bel1 (by simp)))
    | (go_at_call 162; refine (grps_is E2 hl2 h1 rfl).mono ?_; clear hl2; rintro e w2 ⟨A1, c1, rfl, own1, bel2⟩; have E3 := (E2.go bel2).2; have hb2 := Lib.hid (Below.box hb1.out bel2 (lt_of_obj hb1.out)))
    | (go_at_call 162; refine (grps_isnt E3 hr2 h2).mono ?_; clear hr2; rintro e w3 ⟨v2, rfl, bel3⟩; have hb3 := Lib.hid (Below.box hb2.out bel3 (lt_of_obj hb2.out)); have bel4 := ((bel0.trans (bel1.mono bel0.size)).trans (bel2.mono (Nat.le_trans bel0.size bel1.size))).trans (bel3.mono (Nat.le_trans bel0.size (Nat.le_trans bel1.size bel2.size))))
    | (refine wpList_load_mid rfl 42 (.tmp 2) rfl w.heap.size 0 rfl (nums .u8 zeroA) _ (row_load hb3.out) Tryz.underlying42 rfl (info42 zeroA_ok) ?_)
    | (refine wpList_store_row rfl 42 (.tmp 2) (.tmp 33) rfl w.heap.size _ rfl rfl 42 (nums .u8 zeroA).toArray hb3.out (info42 zeroA_ok) rfl (numsA_one _) ?_))
  refine bodyPost_ret (v := .tuple #[vA zeroA, .bool false]) ?_ rfl ⟨by unfold QuadR; rw [hno]; rfl, below_row bel4 (Nat.le_refl _) _⟩
  exact results_cell_tmp rfl _ _ rfl (BoxA.run (a := zeroA) (setRow_heap _ _ _ _ _ _ hb3.out) zeroA_ok) rfl
set_option maxRecDepth 100000 in
set_option maxHeartbeats 1600000 in
theorem col_short {w : World} (E : Env w) {s : ByteArray} (hs : s.size < 4294967281) {l r : List UInt8} {gap : Bool} (hcut : Lib.cut s.data.toList gapB.data.toList = (l, r, gap)) {b c : List Int} {n m : Nat} (h1 : grpsS ⟨l.toArray⟩ = some b) (h2 : grpsS ⟨r.toArray⟩ = some c) (hn : b.length = n) (hm : c.length = m) (hg : gap = false) (hne : ((n : Int) == 16) = false) : Calls Tryz.prog 102 #[.string s] w fun e w' => QuadR (colS s) e ∧ Below w.heap.size w w' := by
  have hno : colS s = none := by rw [col_yes hcut h1 h2, if_pos (.inl ⟨hg, by rw [hn]; simp at hne; omega⟩)]
  obtain ⟨hl, hr, hgap⟩ := cut_lens hcut
  have hl2 : (⟨l.toArray⟩ : ByteArray).size < 4294967281 := by show l.toArray.size < _; simp; omega
  have hr2 : (⟨r.toArray⟩ : ByteArray).size < 4294967281 := by show r.toArray.size < _; simp; omega
  have hc := fun {w : World} (E : Env w) => cut_any E hs hcut
  have bel0 : Below w.heap.size w (w.alloc (oA zeroA)) := (Below.refl _ _).alloc (Nat.le_refl _) _
  have E1 := (E.go bel0).2
  have hb0 := Lib.hid (box1 w (oA zeroA))
  subst hg
  clear hcut hl hr hgap
  generalize (⟨l.toArray⟩ : ByteArray) = L at *
  generalize (⟨r.toArray⟩ : ByteArray) = R at *
  go_enter Tryz.func102, Tryz.ntmps102
  go_wp2_with (first
    | (go_at_call 123; refine (hc E1).mono ?_; clear hc; rintro e w1 ⟨rfl, bel1⟩; have E2 := (E1.go bel1).2; have hb1 := Lib.hid (Below.box hb0.out bel1 (by simp)))
    | (go_at_call 162; refine (grps_is E2 hl2 h1 hn).mono ?_; clear hl2; rintro e w2 ⟨A1, c1, rfl, own1, bel2⟩; have E3 := (E2.go bel2).2; have hb2 := Lib.hid (Below.box hb1.out bel2 (lt_of_obj hb1.out)))
    | (go_at_call 162; refine (grps_is E3 hr2 h2 hm).mono ?_; clear hr2; rintro e w3 ⟨A2, c2, rfl, own2, bel3⟩; have hb3 := Lib.hid (Below.box hb2.out bel3 (lt_of_obj hb2.out)); have bel4 := ((bel0.trans (bel1.mono bel0.size)).trans (bel2.mono (Nat.le_trans bel0.size bel1.size))).trans (bel3.mono (Nat.le_trans bel0.size (Nat.le_trans bel1.size bel2.size))))
    | (refine wpList_load_mid rfl 42 (.tmp 2) rfl w.heap.size 0 rfl (nums .u8 zeroA) _ (row_load hb3.out) Tryz.underlying42 rfl (info42 zeroA_ok) ?_)
    | (refine wpList_store_row rfl 42 (.tmp 2) (.tmp 51) rfl w.heap.size _ rfl rfl 42 (nums .u8 zeroA).toArray hb3.out (info42 zeroA_ok) rfl (numsA_one _) ?_))
  refine bodyPost_ret (v := .tuple #[vA zeroA, .bool false]) ?_ rfl ⟨by unfold QuadR; rw [hno]; rfl, below_row bel4 (Nat.le_refl _) _⟩
  exact results_cell_tmp rfl _ _ rfl (BoxA.run (a := zeroA) (setRow_heap _ _ _ _ _ _ hb3.out) zeroA_ok) rfl
set_option maxRecDepth 100000 in
set_option maxHeartbeats 1600000 in
theorem col_long {w : World} (E : Env w) {s : ByteArray} (hs : s.size < 4294967281) {l r : List UInt8} {gap : Bool} (hcut : Lib.cut s.data.toList gapB.data.toList = (l, r, gap)) {b c : List Int} {n m : Nat} (h1 : grpsS ⟨l.toArray⟩ = some b) (h2 : grpsS ⟨r.toArray⟩ = some c) (hn : b.length = n) (hm : c.length = m) (hnb : n ≤ 100000000000) (hmb : m ≤ 100000000000) (hg : gap = true) (hgt : decide (14 < (n : Int) + (m : Int)) = true) : Calls Tryz.prog 102 #[.string s] w fun e w' => QuadR (colS s) e ∧ Below w.heap.size w w' := by
  have hw : wrap64 ((n : Int) + (m : Int)) = (n : Int) + m := by unfold wrap64; omega
  have hno : colS s = none := by rw [col_yes hcut h1 h2, if_pos (.inr ⟨hg, by rw [hn, hm]; have := of_decide_eq_true hgt; omega⟩)]
  obtain ⟨hl, hr, hgap⟩ := cut_lens hcut
  have hl2 : (⟨l.toArray⟩ : ByteArray).size < 4294967281 := by show l.toArray.size < _; simp; omega
  have hr2 : (⟨r.toArray⟩ : ByteArray).size < 4294967281 := by show r.toArray.size < _; simp; omega
  have hc := fun {w : World} (E : Env w) => cut_any E hs hcut
  have bel0 : Below w.heap.size w (w.alloc (oA zeroA)) := (Below.refl _ _).alloc (Nat.le_refl _) _
  have E1 := (E.go bel0).2
  have hb0 := Lib.hid (box1 w (oA zeroA))
  subst hg
  clear hcut hl hr hgap
  generalize (⟨l.toArray⟩ : ByteArray) = L at *
  generalize (⟨r.toArray⟩ : ByteArray) = R at *
  go_enter Tryz.func102, Tryz.ntmps102
  go_wp2_with (first
    | (go_at_call 123; refine (hc E1).mono ?_; clear hc; rintro e w1 ⟨rfl, bel1⟩; have E2 := (E1.go bel1).2; have hb1 := Lib.hid (Below.box hb0.out bel1 (by simp)))
    | (go_at_call 162; refine (grps_is E2 hl2 h1 hn).mono ?_; clear hl2; rintro e w2 ⟨A1, c1, rfl, own1, bel2⟩; have E3 := (E2.go bel2).2; have hb2 := Lib.hid (Below.box hb1.out bel2 (lt_of_obj hb1.out)))
    | (go_at_call 162; refine (grps_is E3 hr2 h2 hm).mono ?_; clear hr2; rintro e w3 ⟨A2, c2, rfl, own2, bel3⟩; have hb3 := Lib.hid (Below.box hb2.out bel3 (lt_of_obj hb2.out)); have bel4 := ((bel0.trans (bel1.mono bel0.size)).trans (bel2.mono (Nat.le_trans bel0.size bel1.size))).trans (bel3.mono (Nat.le_trans bel0.size (Nat.le_trans bel1.size bel2.size))))
    | (refine wpList_load_mid rfl 42 (.tmp 2) rfl w.heap.size 0 rfl (nums .u8 zeroA) _ (row_load hb3.out) Tryz.underlying42 rfl (info42 zeroA_ok) ?_)
    | (refine wpList_store_row rfl 42 (.tmp 2) (.tmp 51) rfl w.heap.size _ rfl rfl 42 (nums .u8 zeroA).toArray hb3.out (info42 zeroA_ok) rfl (numsA_one _) ?_))
  refine bodyPost_ret (v := .tuple #[vA zeroA, .bool false]) ?_ rfl ⟨by unfold QuadR; rw [hno]; rfl, below_row bel4 (Nat.le_refl _) _⟩
  exact results_cell_tmp rfl _ _ rfl (BoxA.run (a := zeroA) (setRow_heap _ _ _ _ _ _ hb3.out) zeroA_ok) rfl
def offD (m : Nat) : Nat := if m = 0 then 0 else 16 - m
theorem slice_low (W : World) (g : Nat) {m : Nat} (hm : m ≤ 16) : (Instr.sliceAt 42 (.pointer (some ⟨g, 0, none⟩)) (some (.int .i64 (16 - (m : Int)))) none none).run Tryz.prog W = .ok (.slice (some ⟨g, offD m, none⟩) m m) W := by
  have a16 : Tryz.prog.arrayLen 42 = 16 := by kernel_rfl
  have e5 : Tryz.prog.elem 42 = 5 := by kernel_rfl
  have hs : (sizeOf 5).run Tryz.prog W = .ok 1 W := by kernel_rfl
  have h := run_sliceAt_array_l (P := Tryz.prog) W 42 ⟨g, 0, none⟩ (by kernel_rfl) .i64 (16 - (m : Int)) (by omega) (by rw [a16]; omega)
  rw [h, e5, hs, a16]
  have e1 : (16 - (m : Int)).toNat = 16 - m := by omega
  unfold offD
  by_cases h0 : m = 0
  · subst h0; simp [Result.andThen, slicedAt]
  · have h1 : 16 ≠ 16 - m := by omega
    have h2 : 16 - (16 - m) = m := by omega
    simp [Result.andThen, slicedAt, e1, h0, h1, h2, Addr.add]
    try omega
theorem own_ne {W : World} {g t e k n0 : Nat} {cs : Array Value} {v : Value} {xs : List Value} (h : W.heap[g]? = some (.cells cs t (0, 0))) (ht : t ≠ e) (ho : W.ownsRow n0 e 1 v k xs) : v.ownBlock ≠ some g := fun e' => by
  obtain ⟨_, ⟨rfl, _⟩ | ⟨g', cap, cur, rfl, _, hh, _⟩⟩ := ho
  · cases e'
  · cases e'
    rw [h] at hh
    cases hh
    exact ht rfl
theorem own_setRow {W : World} {g e k n0 : Nat} {cs : Array Value} {v : Value} {xs : List Value} (ho : W.ownsRow n0 e 1 v k xs) (hne : v.ownBlock ≠ some g) : (W.setRow g cs).ownsRow n0 e 1 v k xs :=
  ho.kept (row := some g) ⟨rfl, rfl, rfl, by simp, fun j _ hj => setRow_other _ _ _ _ (fun e => hj (by rw [e]))⟩ (.inr hne)
/-- The two copies. -/
theorem copies {w3 : World} {g n m n1 n2 c1 c2 : Nat} {A1 A2 : Option Addr} {b c : List Int} (h3 : w3.heap[g]? = some (oA zeroA)) (o1 : w3.ownsRow n1 5 1 (.slice A1 n c1) n (nums .u8 b)) (o2 : w3.ownsRow n2 5 1 (.slice A2 m c2) m (nums .u8 c)) (hn : b.length = n) (hm : c.length = m) (hs : n + m ≤ 16) (dC : Nat) :
    (Builtin.copy_ #[150, 150] 3 #[.slice (some ⟨g, 0, none⟩) 16 16, .slice A1 n c1]).run Tryz.prog w3 = .ok (.int .i64 n) (w3.setRow g (nums .u8 (b ++ List.replicate (16 - n) 0)).toArray) ∧
    (Builtin.copy_ #[150, 150] 3 #[.slice (some ⟨g, offD m, none⟩) m dC, .slice A2 m c2]).run Tryz.prog (w3.setRow g (nums .u8 (b ++ List.replicate (16 - n) 0)).toArray) = .ok (.int .i64 m) (w3.setRow g (nums .u8 (fillA b c)).toArray) := by
  have z : zeroA.length = 16 := rfl
  refine ⟨?_, ?_⟩
  · rw [copy_any o1 h3 (by omega) (by omega)]
    have := fill_one (b := b) (by omega)
    rw [hn] at this
    rw [this]
  · have h4 : (w3.setRow g (nums .u8 (b ++ List.replicate (16 - n) 0)).toArray).heap[g]? = some (oA (b ++ List.replicate (16 - n) 0)) := setRow_heap _ _ _ _ _ _ h3
    rw [copy_any (own_setRow o2 (own_ne h3 (by decide) o2)) h4 (Nat.le_refl _) (by unfold offD; simp; split <;> omega), setRow_setRow]
    have e : (b ++ List.replicate (16 - n) (0 : Int)).take (offD m) ++ c ++ (b ++ List.replicate (16 - n) (0 : Int)).drop (offD m + m) = fillA b c := by
      unfold offD
      split
      · rename_i h0
        subst h0
        obtain rfl : c = [] := List.eq_nil_of_length_eq_zero hm
        simp [fillA, hn]
      · have := fill_two (b := b) (c := c) (by omega)
        rw [hn, hm] at this
        exact this
    rw [e]
set_option maxRecDepth 100000 in
set_option maxHeartbeats 1600000 in
theorem col_gap {w : World} (E : Env w) {s : ByteArray} (hs : s.size < 4294967281) {l r : List UInt8} (hcut : Lib.cut s.data.toList gapB.data.toList = (l, r, true)) {b c : List Int} {n m : Nat} (h1 : grpsS ⟨l.toArray⟩ = some b) (h2 : grpsS ⟨r.toArray⟩ = some c) (hn : b.length = n) (hm : c.length = m) (hle : n + m ≤ 14) : Calls Tryz.prog 102 #[.string s] w fun e w' => QuadR (colS s) e ∧ Below w.heap.size w w' := by
  have hyes : colS s = some (fillA b c) := by rw [col_yes hcut h1 h2, if_neg (fun h => h.elim (fun h => Bool.noConfusion h.1) (fun h => by have := h.2; omega))]
  have hok := fill_ok (b := b) (c := c) (by omega) (grp_rng h1) (grp_rng h2)
  have hw : wrap64 ((n : Int) + (m : Int)) = (n : Int) + m := by unfold wrap64; omega
  have hd : decide (14 < (n : Int) + (m : Int)) = false := decide_eq_false (by omega)
  have hsl := fun W => slice_low W w.heap.size (m := m) (by omega)
  obtain ⟨hl, hr, hgap⟩ := cut_lens hcut
  have hl2 : (⟨l.toArray⟩ : ByteArray).size < 4294967281 := by show l.toArray.size < _; simp; omega
  have hr2 : (⟨r.toArray⟩ : ByteArray).size < 4294967281 := by show r.toArray.size < _; simp; omega
  have hc := fun {w : World} (E : Env w) => cut_any E hs hcut
  have bel0 : Below w.heap.size w (w.alloc (oA zeroA)) := (Below.refl _ _).alloc (Nat.le_refl _) _
  have E1 := (E.go bel0).2
  have hb0 := Lib.hid (box1 w (oA zeroA))
  clear hcut hl hr hgap
  generalize (⟨l.toArray⟩ : ByteArray) = L at *
  generalize (⟨r.toArray⟩ : ByteArray) = R at *
  replace hok := Lib.hid hok
  replace hyes := Lib.hid hyes
  go_enter Tryz.func102, Tryz.ntmps102
  go_wp2_with (first
    | (go_at_call 123; refine (hc E1).mono ?_; clear hc; rintro e w1 ⟨rfl, bel1⟩; have E2 := (E1.go bel1).2; have hb1 := Lib.hid (Below.box hb0.out bel1 (by simp)))
    | (go_at_call 162; refine (grps_is E2 hl2 h1 hn).mono ?_; clear hl2; rintro e w2 ⟨A1, c1, rfl, own1, bel2⟩; have E3 := (E2.go bel2).2; have hb2 := Lib.hid (Below.box hb1.out bel2 (lt_of_obj hb1.out)))
    | (go_at_call 162; refine (grps_is E3 hr2 h2 hm).mono ?_; clear hr2; rintro e w3 ⟨A2, c2, rfl, own2, bel3⟩; have hb3 := Lib.hid (Below.box hb2.out bel3 (lt_of_obj hb2.out)); have bel4 := ((bel0.trans (bel1.mono bel0.size)).trans (bel2.mono (Nat.le_trans bel0.size bel1.size))).trans (bel3.mono (Nat.le_trans bel0.size (Nat.le_trans bel1.size bel2.size))); have hcps := copies hb3.out (row_below own1 bel3) own2 hn hm (by omega) m; have hcp1 := hcps.1; have hcp2 := hcps.2; clear hcps own1 own2; have hb5 := Lib.hid (setRow_heap w3 w.heap.size (nums .u8 zeroA).toArray (nums .u8 (fillA b c)).toArray 42 (0, 0) hb3.out))
    | (refine wpList_load_mid rfl 42 (.tmp 2) rfl w.heap.size 0 rfl (nums .u8 (fillA b c)) _ (row_load hb5.out) Tryz.underlying42 rfl (info42 hok.out) ?_)
    | (refine wpList_store_row rfl 42 (.tmp 2) (.tmp 61) rfl w.heap.size _ rfl rfl 42 (nums .u8 (fillA b c)).toArray hb5.out (info42 hok.out) rfl (numsA_one _) ?_))
  refine bodyPost_ret (v := .tuple #[vA (fillA b c), .bool true]) ?_ rfl ⟨by unfold QuadR; rw [hyes.out]; rfl, below_row (below_row bel4 (Nat.le_refl _) _) (Nat.le_refl _) _⟩
  exact results_cell_tmp rfl _ _ rfl (BoxA.run (a := fillA b c) (setRow_heap _ _ _ _ _ _ hb5.out) hok.out) rfl
set_option maxRecDepth 100000 in
set_option maxHeartbeats 1600000 in
theorem col_full {w : World} (E : Env w) {s : ByteArray} (hs : s.size < 4294967281) {l r : List UInt8} (hcut : Lib.cut s.data.toList gapB.data.toList = (l, r, false)) {b c : List Int} {n m : Nat} (h1 : grpsS ⟨l.toArray⟩ = some b) (h2 : grpsS ⟨r.toArray⟩ = some c) (hn : b.length = n) (hm : c.length = m) (hn16 : n = 16) (hm0 : m = 0) : Calls Tryz.prog 102 #[.string s] w fun e w' => QuadR (colS s) e ∧ Below w.heap.size w w' := by
  have hyes : colS s = some (fillA b c) := by rw [col_yes hcut h1 h2, if_neg (fun h => h.elim (fun h => h.2 (by omega)) (fun h => Bool.noConfusion h.1))]
  have hok := fill_ok (b := b) (c := c) (by omega) (grp_rng h1) (grp_rng h2)
  have hd : ((n : Int) == 16) = true := by subst hn16; rfl
  have hsl := fun W => slice_low W w.heap.size (m := m) (by omega)
  obtain ⟨hl, hr, hgap⟩ := cut_lens hcut
  have hl2 : (⟨l.toArray⟩ : ByteArray).size < 4294967281 := by show l.toArray.size < _; simp; omega
  have hr2 : (⟨r.toArray⟩ : ByteArray).size < 4294967281 := by show r.toArray.size < _; simp; omega
  have hc := fun {w : World} (E : Env w) => cut_any E hs hcut
  have bel0 : Below w.heap.size w (w.alloc (oA zeroA)) := (Below.refl _ _).alloc (Nat.le_refl _) _
  have E1 := (E.go bel0).2
  have hb0 := Lib.hid (box1 w (oA zeroA))
  clear hcut hl hr hgap
  generalize (⟨l.toArray⟩ : ByteArray) = L at *
  generalize (⟨r.toArray⟩ : ByteArray) = R at *
  have hle : n + m ≤ 16 := by omega
  clear hn16 hm0
  replace hok := Lib.hid hok
  replace hyes := Lib.hid hyes
  go_enter Tryz.func102, Tryz.ntmps102
  go_wp2_with (first
    | (go_at_call 123; refine (hc E1).mono ?_; clear hc; rintro e w1 ⟨rfl, bel1⟩; have E2 := (E1.go bel1).2; have hb1 := Lib.hid (Below.box hb0.out bel1 (by simp)))
    | (go_at_call 162; refine (grps_is E2 hl2 h1 hn).mono ?_; clear hl2; rintro e w2 ⟨A1, c1, rfl, own1, bel2⟩; have E3 := (E2.go bel2).2; have hb2 := Lib.hid (Below.box hb1.out bel2 (lt_of_obj hb1.out)))
    | (go_at_call 162; refine (grps_is E3 hr2 h2 hm).mono ?_; clear hr2; rintro e w3 ⟨A2, c2, rfl, own2, bel3⟩; have hb3 := Lib.hid (Below.box hb2.out bel3 (lt_of_obj hb2.out)); have bel4 := ((bel0.trans (bel1.mono bel0.size)).trans (bel2.mono (Nat.le_trans bel0.size bel1.size))).trans (bel3.mono (Nat.le_trans bel0.size (Nat.le_trans bel1.size bel2.size))); have hcps := copies hb3.out (row_below own1 bel3) own2 hn hm (by omega) m; have hcp1 := hcps.1; have hcp2 := hcps.2; clear hcps own1 own2; have hb5 := Lib.hid (setRow_heap w3 w.heap.size (nums .u8 zeroA).toArray (nums .u8 (fillA b c)).toArray 42 (0, 0) hb3.out))
    | (refine wpList_load_mid rfl 42 (.tmp 2) rfl w.heap.size 0 rfl (nums .u8 (fillA b c)) _ (row_load hb5.out) Tryz.underlying42 rfl (info42 hok.out) ?_)
    | (refine wpList_store_row rfl 42 (.tmp 2) (.tmp 61) rfl w.heap.size _ rfl rfl 42 (nums .u8 (fillA b c)).toArray hb5.out (info42 hok.out) rfl (numsA_one _) ?_))
  refine bodyPost_ret (v := .tuple #[vA (fillA b c), .bool true]) ?_ rfl ⟨by unfold QuadR; rw [hyes.out]; rfl, below_row (below_row bel4 (Nat.le_refl _) _) (Nat.le_refl _) _⟩
  exact results_cell_tmp rfl _ _ rfl (BoxA.run (a := fillA b c) (setRow_heap _ _ _ _ _ _ hb5.out) hok.out) rfl
theorem grps_len {s : ByteArray} {b : List Int} (h : grpsS s = some b) : b.length ≤ 2 * (s.size + 1) := by
  obtain ⟨-, h2⟩ := pieces_sum 58 s.size s (Nat.le_refl _)
  unfold grpsS grpsL at h
  split at h
  · cases h; simp
  · split at h
    · cases h
      have := flatG_len (pieces s colB)
      unfold flatG at this
      rw [this]
      show 2 * (pieces s ⟨#[58]⟩).length ≤ _
      omega
    · cases h
/-- colons. -/
theorem col_any {w : World} (E : Env w) {s : ByteArray} (hs : s.size < 4294967281) : Calls Tryz.prog 102 #[.string s] w fun e w' => QuadR (colS s) e ∧ Below w.heap.size w w' := by
  obtain ⟨l, r, gap, hcut⟩ : ∃ l r gap, Lib.cut s.data.toList gapB.data.toList = (l, r, gap) := ⟨_, _, _, rfl⟩
  obtain ⟨hl, hr, hgap⟩ := cut_lens hcut
  cases h1 : grpsS ⟨l.toArray⟩ with
  | none => exact col_one E hs hcut h1
  | some b =>
    cases h2 : grpsS ⟨r.toArray⟩ with
    | none => exact col_two E hs hcut h1 h2
    | some c =>
      have q1 := grps_len h1
      have q2 := grps_len h2
      have e1 : (⟨l.toArray⟩ : ByteArray).size = l.length := by show l.toArray.size = _; simp
      have e2 : (⟨r.toArray⟩ : ByteArray).size = r.length := by show r.toArray.size = _; simp
      cases gap with
      | true =>
        by_cases hle : b.length + c.length ≤ 14
        · exact col_gap E hs hcut h1 h2 rfl rfl hle
        · exact col_long E hs hcut h1 h2 rfl rfl (by omega) (by omega) rfl (decide_eq_true (by omega))
      | false =>
        by_cases h16 : b.length = 16
        · have : c = [] := by
            rw [hgap rfl] at h2
            have : grpsS ⟨([] : List UInt8).toArray⟩ = some [] := rfl
            rw [this] at h2; cases h2; rfl
          exact col_full E hs hcut h1 h2 rfl rfl h16 (by rw [this]; rfl)
        · exact col_short E hs hcut h1 h2 rfl rfl rfl (by simp; omega)
end Go.Proofs.YtnljjlaececnkaaGreatDoor
