/-
  groups: the bytes of groups of base 16. Condition: the variables hold what their initialisers laid; a text is no longer than memory has room for.
-/
import Derived.Test.YtnljjlaececnkaaGreatDoorN
import Derived.Maps.AppendAt
namespace Go.Proofs.YtnljjlaececnkaaGreatDoor
open Go.RowKit Go.Shelf
set_option linter.unusedVariables false
set_option linter.unusedSimpArgs false
attribute [local go_sem] Oper.semAt_some
/-- A group that is one: what the round meets. -/
theorem grp_some {t : ByteArray} {u : Nat} (h : grpS t = some u) : t.size ≠ 0 ∧ t.size ≤ 4 ∧ hexM 0 t.data.toList = .ok u ∧ u < 65536 ∧ Lib.containsAny t.data.toList [43, 95] = false ∧ ∀ (j : Nat) b, t.data.toList[j]? = some b → b.toNat < 128 := by
  unfold grpS at h
  split at h
  · cases h
  · rename_i hs
    have hl : t.data.toList.length = t.size := Array.length_toList
    have hp : 16 ^ t.data.toList.length ≤ 16 ^ 4 := Nat.pow_le_pow_right (by decide) (by omega)
    have hm := hex_from h (by omega)
    obtain ⟨h1, h2⟩ := hex_bytes h
    refine ⟨by omega, by omega, hm, ?_, by unfold Lib.containsAny; rw [h1]; rfl, h2⟩
    have : ∀ (l : List UInt8) (acc u : Nat), acc ≤ 65535 → hexM acc l = .ok u → u ≤ 65535 := by
      intro l
      induction l with
      | nil => intro acc u ha h; simp [hexM] at h; omega
      | cons c l ih =>
        intro acc u ha h
        unfold hexM at h
        split at h
        · cases h
        · split at h
          · cases h
          · exact ih _ _ (by omega) h
    have := this _ _ _ (by decide) hm
    omega
theorem grp_none {t : ByteArray} (h : grpS t = none) : t.size = 0 ∨ 4 < t.size ∨ ∀ u, hexM 0 t.data.toList ≠ .ok u := by
  unfold grpS at h
  split at h
  · rename_i hs; rcases hs with hs | hs
    · exact .inl hs
    · exact .inr (.inl hs)
  · exact .inr (.inr (hex_none h))
/-- The bytes of groups. -/
def flatG (l : List ByteArray) : List Int := (l.map grpV).flatten
theorem flatG_snoc (l : List ByteArray) (t : ByteArray) : flatG (l ++ [t]) = flatG l ++ grpV t := by simp [flatG]
theorem flatG_len (l : List ByteArray) : (flatG l).length = 2 * l.length := by induction l with
  | nil => rfl
  | cons t l ih => simp only [flatG, List.map_cons, List.flatten_cons, List.length_append, List.length_cons] at *; rw [ih]; simp [grpV]; omega
theorem row_below {W W1 : World} {n e sz k : Nat} {v : Value} {xs : List Value} (h : W.ownsRow n e sz v k xs) (b : Below W.heap.size W W1) : W1.ownsRow n e sz v k xs :=
  h.kept (row := some W.heap.size) ⟨b.os, b.tape, b.output, b.size, fun k hk _ => b.block k hk⟩ (.inr (fun e => by have := (h.lt _ e).2; omega))
theorem box_below {W W1 : World} {B : Nat} {t : TypeId} {v : Value} (h : Boxed W B t v) (b : Below W.heap.size W W1) : Boxed W1 B t v := Below.box h b h.lt
theorem plus_ascii : ∀ (j : Nat) b, (⟨#[43, 95]⟩ : ByteArray).data.toList[j]? = some b → b.toNat < 128 := by
  intro j b h
  match j with
  | 0 => cases h; decide
  | 1 => cases h; decide
  | j + 2 => simp at h
theorem box_app {W w1 : World} {n g b t k : Nat} {v v' : Value} {xs : List Value} {tmp : Obj} {u : Value} (h : Boxed W b t u) (ht : t ≠ 5) (hb : b ≠ g) (hr : W.ownsRow n 5 1 v k xs) (hg : (W.alloc tmp).grownBy w1 v.ownBlock) : Boxed (w1.setCell ⟨g, 0, none⟩ v') b t u :=
  ((h.alloc tmp).kept hg (h.not_row ht hr)).other hb v'
theorem con_no {w : World} {x : ByteArray} (hs : x.size ≤ 4) (h : Lib.containsAny x.data.toList [43, 95] = false) (ha : ∀ (j : Nat) b, x.data.toList[j]? = some b → b.toNat < 128) : Calls Tryz.prog 206 #[.string x, .string ⟨#[43, 95]⟩] w fun e w' => e = .returned (.bool false) ∧ Below w.heap.size w w' := by
  have := Tryz.strings_ContainsAny_laid x ⟨#[43, 95]⟩ w (by omega) (by decide) ha plus_ascii
  rw [show (⟨#[43, 95]⟩ : ByteArray).data.toList = [43, 95] from rfl, h] at this
  exact this
theorem info5p : (Tryz.prog.info? 5).map (fun i => (i.zero, i.size, i.bytes)) = some (some (.int .u8 0), 1, 1) := by kernel_rfl
/-- Between two rounds. -/
def GI (w : World) (pre : List ByteArray) (W : World) : Prop :=
  (∃ v, Boxed W w.heap.size 150 v ∧ W.ownsRow w.heap.size 5 1 v (flatG pre).length (nums .u8 (flatG pre)) ∧ True) ∧ Boxed W (w.heap.size + 1) 4 (.bool false) ∧ (∃ u, Boxed W (w.heap.size + 2) 9 u) ∧ Boxed W (w.heap.size + 3) 9 (.string ⟨#[58]⟩) ∧ Boxed W (w.heap.size + 4) 3 (.int .i64 0) ∧ Below w.heap.size w W ∧ (∀ t ∈ pre, (grpS t).isSome = true) ∧ w.heap.size + 5 ≤ W.heap.size
def GX (w : World) (c : Code) (pre : List ByteArray) (W : World) : Prop :=
  c = .ret ∧ Boxed W w.heap.size 150 (.slice none 0 0) ∧ Boxed W (w.heap.size + 1) 4 (.bool false) ∧ Below w.heap.size w W ∧ (∃ t ∈ pre, grpS t = none) ∧ w.heap.size + 5 ≤ W.heap.size
theorem GI.turn {w : World} {pre : List ByteArray} {A B : World} (h : GI w pre A) (ht : ∃ u, B = A.setCell ⟨w.heap.size + 2, 0, none⟩ u) : GI w pre B := by
  obtain ⟨u, rfl⟩ := ht
  obtain ⟨⟨v, h1, h2, -⟩, h3, ⟨x, h4⟩, h8, h9, h5, h6, h7⟩ := h
  exact ⟨⟨v, h1.other (by omega) u, h2.kept (grownBy_setCell' A _ u) (.inr (fun e => h4.not_row (by decide) h2 e.symm)), trivial⟩, h3.other (by omega) u, ⟨u, h4.set u⟩, h8.other (by omega) u, h9.other (by omega) u, h5.setCell (p := ⟨w.heap.size + 2, 0, none⟩) (by simp) u, h6, by simpa [World.setCell] using h7⟩
theorem GX.turn {w : World} {c : Code} {pre : List ByteArray} {A B : World} (h : GX w c pre A) (ht : ∃ u, B = A.setCell ⟨w.heap.size + 2, 0, none⟩ u) : GX w c pre B := by
  obtain ⟨u, rfl⟩ := ht
  obtain ⟨h0, h1, h3, h5, h6, h7⟩ := h
  exact ⟨h0, h1.other (by omega) u, h3.other (by omega) u, h5.setCell (p := ⟨w.heap.size + 2, 0, none⟩) (by simp) u, h6, by simpa [World.setCell] using h7⟩
theorem ownFrom_size {β : Type} (B n : Nat) : OwnFrom B (fun (_ : β) W => n ≤ W.heap.size) := fun _ _ _ _ hs hg _ => Nat.le_trans hs hg.size
theorem ownFrom_boxed {β : Type} (B b : Nat) (t : TypeId) : OwnFrom B (fun (_ : β) W => ∃ u, Boxed W b t u) := fun s A C row ⟨u, hs⟩ hg hr => ⟨u, hs.kept hg (fun e => by
  obtain ⟨-, o, ho, hc⟩ := hr b e.symm
  rw [show A.heap[b]? = _ from hs] at ho; cases ho; cases hc)⟩
theorem GI.own (w : World) (B : Nat) (hB : w.heap.size ≤ B) : OwnFrom B (GI w) :=
  OwnFrom.and (Own.from (holdsRow_own w.heap.size w.heap.size 150 5 1 (fun pre => (flatG pre).length) (fun pre => nums .u8 (flatG pre)) (fun _ _ => True)) _) (OwnFrom.and (Own.from (boxed_own _ _ (fun _ => .bool false)) _) (OwnFrom.and (ownFrom_boxed _ _ _) (OwnFrom.and (Own.from (boxed_own _ _ (fun _ => .string ⟨#[58]⟩)) _) (OwnFrom.and (Own.from (boxed_own _ _ (fun _ => .int .i64 0)) _) (OwnFrom.and (ownFrom_below (Nat.le_refl _) hB) (OwnFrom.and (ownFrom_pure _ _) (ownFrom_size _ _)))))))
theorem GX.own (w : World) (B : Nat) (hB : w.heap.size ≤ B) (c : Code) : OwnFrom B (GX w c) :=
  OwnFrom.and (ownFrom_pure _ (fun _ => c = .ret)) (OwnFrom.and (Own.from (boxed_own _ _ (fun _ => .slice none 0 0)) _) (OwnFrom.and (Own.from (boxed_own _ _ (fun _ => .bool false)) _) (OwnFrom.and (ownFrom_below (Nat.le_refl _) hB) (OwnFrom.and (ownFrom_pure _ _) (ownFrom_size _ _)))))
theorem keeps_below {B : Nat} {W W' : World} (h : Below W.heap.size W W') : KeepsFrom B W W' := ⟨h.size, fun k o _ hk _ => Below.box hk h (lt_of_obj hk)⟩
theorem kp_below {b : Nat} {W W' : World} (h : Below W.heap.size W W') (hb : b + 3 ≤ W.heap.size) : Kp3 b W W' := ⟨h.size, fun k h1 h2 => h.block k (by omega)⟩
theorem results_cells2 {P : Program} {fn : Func} {p q : Tmp} {ty ty' : TypeId} (h : fn.results = #[.cell p ty, .cell q ty']) (tmps : Array Value) (w : World) {v u : Value} {ad ad' : Addr}
    (hp : tmps.getD p undef = .pointer (some ad)) (hl : (loadVar ty ad).run P w = .ok v w) (hq : tmps.getD q undef = .pointer (some ad')) (hl' : (loadVar ty' ad').run P w = .ok u w) : (results fn tmps).run P w = .ok (.tuple #[v, u]) w := by
  have hp' : tmps[p]?.getD undef = .pointer (some ad) := by simpa using hp
  have hq' : tmps[q]?.getD undef = .pointer (some ad') := by simpa using hq
  simp [results, h, hp', hq', asAddr, hl, hl']
theorem loadVar_slice {P : Program} {w : World} {ty e : TypeId} {v : Value} {ad : Addr} (hu : P.underlying ty = some (.slice e)) (h : w.cell? ad = some v) : (loadVar ty ad).run P w = .ok v w := by
  simp [loadVar, isAgg, run_underlying hu, h]
theorem loadVar_bool {P : Program} {w : World} {ty : TypeId} {v : Value} {ad : Addr} (hu : P.underlying ty = some .bool) (h : w.cell? ad = some v) : (loadVar ty ad).run P w = .ok v w := by
  simp [loadVar, isAgg, run_underlying hu, h]
/-- What groups answers. -/
def GrpR (w : World) (s : ByteArray) (e : Ending) (W' : World) : Prop := ∃ v, e = .returned (.tuple #[v, .bool (grpsS s).isSome]) ∧ W'.ownsRow w.heap.size 5 1 v ((grpsS s).getD []).length (nums .u8 ((grpsS s).getD []))
theorem grps_yes {s : ByteArray} (h0 : s.size ≠ 0) (h : ∀ t ∈ pieces s ⟨#[58]⟩, (grpS t).isSome = true) : grpsS s = some (flatG (pieces s ⟨#[58]⟩)) := by
  unfold grpsS grpsL
  exact (if_neg h0).trans (if_pos (List.all_eq_true.2 h))
theorem grps_no {s : ByteArray} (h0 : s.size ≠ 0) (h : ∃ t ∈ pieces s ⟨#[58]⟩, grpS t = none) : grpsS s = none := by
  obtain ⟨t, ht, hn⟩ := h
  unfold grpsS grpsL
  refine (if_neg h0).trans (if_neg fun hall => ?_)
  have := List.all_eq_true.1 hall t ht
  rw [hn] at this; cases this
set_option maxRecDepth 100000 in
set_option maxHeartbeats 1600000 in
theorem grps_some {w : World} (E : Env w) (s : ByteArray) (h0 : s.size ≠ 0) (hs : s.size < 4294967281) (hsz : ∀ t ∈ pieces s ⟨#[58]⟩, t.size ≤ 140737488351232) (hn : (pieces s ⟨#[58]⟩).length ≤ 70368744177664) : Calls Tryz.prog 162 #[.string s] w fun e w' => GrpR w s e w' ∧ Below w.heap.size w w' := by
  have hemp : s.toList.isEmpty = false := by
    rw [← decide_eq_emptyBytes]
    exact decide_eq_false (fun h => h0 (by rw [h]; rfl))
  have i1 : w.heap.size + 1 + 1 + 1 = w.heap.size + 3 := rfl
  have i2 : w.heap.size + 1 + 1 = w.heap.size + 2 := rfl
  have i3 : w.heap.size + 1 + 1 + 2 = w.heap.size + 4 := rfl
  obtain ⟨i0, hi, hz0, hz1, hz2⟩ := info_parts info5p
  have b0 : Boxed (w.alloc (.cells #[.slice none 0 0] 150)) w.heap.size 150 (.slice none 0 0) := Boxed.new w 150 _
  have b1 := Boxed.new (w.alloc (.cells #[.slice none 0 0] 150)) 4 (.bool false)
  have b2 := Boxed.new ((w.alloc (.cells #[.slice none 0 0] 150)).alloc (.cells #[.bool false] 4)) 9 (.string s)
  have b3 := Boxed.new (((w.alloc (.cells #[.slice none 0 0] 150)).alloc (.cells #[.bool false] 4)).alloc (.cells #[.string s] 9)) 9 (.string ⟨#[58]⟩)
  have b4 := Boxed.new ((((w.alloc (.cells #[.slice none 0 0] 150)).alloc (.cells #[.bool false] 4)).alloc (.cells #[.string s] 9)).alloc (.cells #[.string ⟨#[58]⟩] 9)) 3 (.int .i64 0)
  replace b0 := ((((b0.alloc (.cells #[.bool false] 4)).alloc (.cells #[.string s] 9)).alloc (.cells #[.string ⟨#[58]⟩] 9)).alloc (.cells #[.int .i64 0] 3))
  replace b1 := (((b1.alloc (.cells #[.string s] 9)).alloc (.cells #[.string ⟨#[58]⟩] 9)).alloc (.cells #[.int .i64 0] 3))
  replace b2 := ((b2.alloc (.cells #[.string ⟨#[58]⟩] 9)).alloc (.cells #[.int .i64 0] 3))
  replace b3 := (b3.alloc (.cells #[.int .i64 0] 3))
  simp only [World.size_alloc, i1, i2] at b1 b2 b3 b4
  have bel : Below w.heap.size w (((((w.alloc (.cells #[.slice none 0 0] 150)).alloc (.cells #[.bool false] 4)).alloc (.cells #[.string s] 9)).alloc (.cells #[.string ⟨#[58]⟩] 9)).alloc (.cells #[.int .i64 0] 3)) :=
    (((((Below.refl _ _).alloc (Nat.le_refl _) _).alloc (by simp) _).alloc (by simp; omega) _).alloc (by simp; omega) _).alloc (by simp; omega) _
  have sz : (((((w.alloc (.cells #[.slice none 0 0] 150)).alloc (.cells #[.bool false] 4)).alloc (.cells #[.string s] 9)).alloc (.cells #[.string ⟨#[58]⟩] 9)).alloc (.cells #[.int .i64 0] 3)).heap.size = w.heap.size + 5 := by simp
  refine (callsIn_wide (n := 5)).1 ?_
  refine callsIn_of_wp_marks Tryz.func162 rfl trivial ?_ rfl
  simp only [Tryz.ntmps162, List.size_toArray, List.length_cons, List.length_nil, Nat.reduceAdd, Nat.reduceSub, Array.replicate_succ, Array.replicate_zero, List.push_toArray, List.append_toArray, List.nil_append, List.cons_append]
  gi_wp2_with (refine ⟨trivial, ?_⟩; gi_at_call 205; refine (callsIn_wide.2 (splitSeq_any s ⟨#[58]⟩)).mono ?_; rintro e w' ⟨rfl, rfl⟩)
  rw [show w.heap.size + 1 + 1 + 1 = w.heap.size + 3 from rfl, show w.heap.size + 1 + 1 = w.heap.size + 2 from rfl, show w.heap.size + 2 + 2 = w.heap.size + 4 from rfl]
  generalize (((((w.alloc (.cells #[.slice none 0 0] 150)).alloc (.cells #[.bool false] 4)).alloc (.cells #[.string s] 9)).alloc (.cells #[.string ⟨#[58]⟩] 9)).alloc (.cells #[.int .i64 0] 3)) = W0 at b0 b1 b2 b3 b4 bel sz ⊢
  refine wpIn_rangeFunc_T rfl (by omega) (gf := 292) (lb := #[.pointer (some ⟨w.heap.size + 2 + 1, 0, none⟩), .pointer (some ⟨w.heap.size + 2, 0, none⟩), .pointer (some ⟨w.heap.size + 2 + 2, 0, none⟩)]) rfl trivial (enters_of Tryz.func292 (by kernel_rfl) rfl)
    (seq_stops s hs 58 (w.heap.size + 2) W0 b2 b3 b4) rfl
    (fun A B ⟨u, hB⟩ k hk => by rw [hB]; exact Below.heap_setCell _ _ _ _ (by simp; omega))
    (fun A B C h k => ⟨Nat.le_trans h.1 k.1, fun j h1 h2 => (k.2 j h1 h2).trans (h.2 j h1 h2)⟩)
    (fun W l o hl => ⟨by simp, fun k h1 h2 => World.putObj_heap_other (by omega)⟩)
    (GI w) (GX w) (fun _ _ _ h t => h.turn t) (fun _ _ _ _ h t => h.turn t) (GI.own w _ (by omega)) (GX.own w _ (by omega))
    ⟨⟨_, b0, World.ownsRow_nil _ _ _ _, trivial⟩, b1, ⟨_, b2⟩, b3, b4, bel, (fun t h => by cases h), by omega⟩
    (fun x => { tmps := #[.string s, undef, .pointer (some ⟨w.heap.size, 0, none⟩), .pointer (some ⟨w.heap.size + 1, 0, none⟩), .string x, undef, undef, .string s, .bool false, .string s, .func (.func 292) #[] #[.pointer (some ⟨w.heap.size + 3, 0, none⟩), .pointer (some ⟨w.heap.size + 2, 0, none⟩), .pointer (some ⟨w.heap.size + 4, 0, none⟩)], .string x, undef, undef, undef, undef, undef, undef, undef, undef, undef, undef, undef, undef, undef, undef, undef, undef, undef, undef, undef, undef, undef, undef, undef, undef, undef], defers := [] }) ?assign ?body ?done ?stop
  case assign =>
    intro l x W K hK
    gi_wp2
    exact hK
  case body =>
    rintro l pre x W ⟨⟨v, hv, hrow, -⟩, h1, ⟨u2, h2⟩, h3, h4, hB, hall, hW⟩ hpre
    have hx : x.size ≤ 140737488351232 := hsz x (hpre.subset (by simp))
    have hlen : pre.length + 1 ≤ 70368744177664 := by have := hpre.length_le; simp at this; omega
    have EW := (E.go hB).2
    have hfl := flatG_len pre
    have cv := hv.cell
    have fv := hv.frozen
    have cf := h1.cell
    have ff := h1.frozen
    cases hg : grpS x with
    | some u =>
      obtain ⟨g1, g2, g3, g4, g5, g6⟩ := grp_some hg
      have d4 : decide (4 < (x.size : Int)) = false := decide_eq_false (by omega)
      gi_wp2_with (first
        | (refine ⟨trivial, ?_⟩; gi_at_call 119; refine (CallsIn.inRound l (callsIn_wide.2 (pu_ok g1 hx g3))).mono ?_; rintro e W1 ⟨rfl, bel1⟩)
        | (refine ⟨trivial, ?_⟩; gi_at_call 206; refine (CallsIn.inRound l (callsIn_wide.2 (con_no g2 g5 g6))).mono ?_; rintro e W2 ⟨rfl, bel2⟩; have v2 := box_below (box_below hv bel1) bel2; have r2 := row_below (row_below hrow bel1) bel2; have bel3 := bel1.trans (bel2.mono bel1.size); have cv2 := v2.cell; have fv2 := v2.frozen)
        | (gi_at_builtin; refine wpListIn_append_own _ rfl _ _ 150 rfl w.heap.size 5 i0 (.int .u8 0) 1 1 Tryz.underlying150 hi hz0 hz1 hz2 rfl (by decide) _ _ _ rfl (r2.alloc _) ⟨W2.heap.size, 0, none⟩ 2 2 [.int .u8 ((u : Int) / 256), .int .u8 ((u : Int) % 256)] rfl rfl (new_cells W2 [.int .u8 ((u : Int) / 256), .int .u8 ((u : Int) % 256)] 5 _ rfl) (by simp [Value.oneCell']) (by unfold maxLen; omega) (by omega) (by have := hB.size; have := bel3.size; simp; omega) ?_; intro v' w1 hown' hgrow _; obtain ⟨g', cap', rfl⟩ := ownsRow_succ hown'; obtain ⟨hv1, hv2, hr2, hk2, hb2⟩ := v2.appended (by decide) r2 (by have := hB.size; have := bel3.size; omega) (Nat.le_refl _) hown' hgrow; have hc1 := hv1.cell; have hf1 := hv1.frozen))
      have x1 := fun v' => box_app (v' := v') (g := w.heap.size) (box_below (box_below h1 bel1) bel2) (by decide) (by omega) r2 hgrow
      have x2 := fun v' => box_app (v' := v') (g := w.heap.size) (box_below (box_below h2 bel1) bel2) (by decide) (by omega) r2 hgrow
      have x3 := fun v' => box_app (v' := v') (g := w.heap.size) (box_below (box_below h3 bel1) bel2) (by decide) (by omega) r2 hgrow
      have x4 := fun v' => box_app (v' := v') (g := w.heap.size) (box_below (box_below h4 bel1) bel2) (by decide) (by omega) r2 hgrow
      have hnum : nums .u8 (grpV x) = [.int .u8 ((u : Int) / 256), .int .u8 ((u : Int) % 256)] := by simp [grpV, hg, nums]
      have hl : (flatG (pre ++ [x])).length = (flatG pre).length + 2 := by rw [flatG_len, flatG_len]; simp; omega
      rw [← hfl]
      refine ⟨(keeps_below bel3).trans (hk2.from _), ⟨?_, fun k k1 k2 => ?_⟩, ⟨_, hv2, ?_, trivial⟩, x1 _, ⟨_, x2 _⟩, x3 _, x4 _, (hB.trans (bel3.mono hB.size)).trans hb2, fun t ht => ?_, ?_⟩
      · exact Nat.le_trans bel3.size hb2.size
      · rcases (by omega : k = w.heap.size + 2 ∨ k = w.heap.size + 3 ∨ k = w.heap.size + 4) with rfl | rfl | rfl
        · exact (x2 _).trans (Eq.symm h2)
        · exact (x3 _).trans (Eq.symm h3)
        · exact (x4 _).trans (Eq.symm h4)
      · rw [hl, flatG_snoc, ← nums_append, hnum]
        exact hr2
      · rcases List.mem_append.1 ht with ht | ht
        · exact hall t ht
        · rw [List.mem_singleton.1 ht, hg]; rfl
      · have := hb2.size
        have := bel3.size
        omega
    | none =>
      have fin : ∀ (a : Act) (W1 : World), Below W.heap.size W W1 → ownPostG W0.heap.size (Kp3 (w.heap.size + 2)) (GI w) (GX w) (pre ++ [x]) W .ret a ((W1.setCell ⟨w.heap.size, 0, none⟩ (.slice none 0 0)).setCell ⟨w.heap.size + 1, 0, none⟩ (.bool false))   := fun a W1 bel1 => by
        have v1 := box_below hv bel1
        have f1 := box_below h1 bel1
        refine ⟨(keeps_below bel1).trans (((KeepsOthers.setCell _ _ _).trans (KeepsOthers.setCell _ _ _)).from _), rfl, (v1.set _).other (by omega) _, (f1.other (by omega) _).set _, ?_, ⟨x, by simp, hg⟩, ?_⟩
        · exact ((hB.trans (bel1.mono hB.size)).setCell (p := ⟨w.heap.size, 0, none⟩) (Nat.le_refl _) _).setCell (p := ⟨w.heap.size + 1, 0, none⟩) (by simp) _
        · have := bel1.size
          simp [World.setCell]; omega
      replace fin := Lib.hid fin
      by_cases hz : x.size = 0
      · gi_wp2_with (refine ⟨trivial, ?_⟩; gi_at_call 119; refine (CallsIn.inRound l (callsIn_wide.2 (pu_no EW hx (.inl hz)))).mono ?_; rintro e W1 ⟨⟨n, te, pe, rfl⟩, bel1⟩; have v1 := box_below hv bel1; have f1 := box_below h1 bel1; have c1 := v1.cell; have e1 := v1.frozen; have c2 := f1.cell; have e2 := f1.frozen)
        refine ⟨trivial, ?_⟩
        gi_wp2
        exact fin.out _ W1 bel1
      · cases hm : hexM 0 x.data.toList with
        | ok u =>
          have h4x : 4 < x.size := by
            rcases grp_none hg with h | h | h
            · exact absurd h hz
            · exact h
            · exact absurd hm (h u)
          have d4 : decide (4 < (x.size : Int)) = true := decide_eq_true (by omega)
          gi_wp2_with (refine ⟨trivial, ?_⟩; gi_at_call 119; refine (CallsIn.inRound l (callsIn_wide.2 (pu_ok hz hx hm))).mono ?_; rintro e W1 ⟨rfl, bel1⟩; have v1 := box_below hv bel1; have f1 := box_below h1 bel1; have c1 := v1.cell; have e1 := v1.frozen; have c2 := f1.cell; have e2 := f1.frozen)
          refine ⟨trivial, ?_⟩
          gi_wp2
          exact fin.out _ W1 bel1
        | «syntax» =>
          gi_wp2_with (refine ⟨trivial, ?_⟩; gi_at_call 119; refine (CallsIn.inRound l (callsIn_wide.2 (pu_no EW hx (.inr (fun u h => by rw [hm] at h; cases h))))).mono ?_; rintro e W1 ⟨⟨n, te, pe, rfl⟩, bel1⟩; have v1 := box_below hv bel1; have f1 := box_below h1 bel1; have c1 := v1.cell; have e1 := v1.frozen; have c2 := f1.cell; have e2 := f1.frozen)
          refine ⟨trivial, ?_⟩
          gi_wp2
          exact fin.out _ W1 bel1
        | range =>
          gi_wp2_with (refine ⟨trivial, ?_⟩; gi_at_call 119; refine (CallsIn.inRound l (callsIn_wide.2 (pu_no EW hx (.inr (fun u h => by rw [hm] at h; cases h))))).mono ?_; rintro e W1 ⟨⟨n, te, pe, rfl⟩, bel1⟩; have v1 := box_below hv bel1; have f1 := box_below h1 bel1; have c1 := v1.cell; have e1 := v1.frozen; have c2 := f1.cell; have e2 := f1.frozen)
          refine ⟨trivial, ?_⟩
          gi_wp2
          exact fin.out _ W1 bel1
  case done =>
    rintro D ys W hD rfl ⟨⟨v, hv, hrow, -⟩, h1, -, -, -, hB, hall, hW⟩ hK
    have cv := hv.cell
    have fv := hv.frozen
    have cf := h1.cell
    have ff := h1.frozen
    have hq := grps_yes h0 hall
    obtain ⟨A, n, c, rfl⟩ : ∃ A n c, v = .slice A n c := by
      obtain ⟨_, ⟨rfl, _⟩ | ⟨g, cap, cur, rfl, _⟩⟩ := hrow
      · exact ⟨_, _, _, rfl⟩
      · exact ⟨_, _, _, rfl⟩
    gi_wp2
    have hK1 := (KeepsOthers.setCell W ⟨w.heap.size, 0, none⟩ (.slice A n c)).same D _ hK rfl
    have hK2 := (KeepsOthers.setCell (W.setCell ⟨w.heap.size, 0, none⟩ (.slice A n c)) ⟨w.heap.size + 1, 0, none⟩ (.bool true)).same D _ hK1 rfl
    refine ⟨by simp, .inl ⟨_, _, rfl, run_takeDeferred hK2, ?_⟩⟩
    have nr : ∀ b t u, Boxed W b t u → t ≠ 5 → (Value.slice A n c).ownBlock ≠ some b := fun b t u hb ht e => hb.not_row ht hrow e.symm
    have q1 := (hrow.kept (grownBy_setCell' W w.heap.size (.slice A n c)) (.inr (nr _ _ _ hv (by decide))))
    have q2 := q1.kept (grownBy_setCell' _ (w.heap.size + 1) (.bool true)) (.inr (nr _ _ _ h1 (by decide)))
    have p1 := ((hv.set (.slice A n c)).other (B' := w.heap.size + 1) (by omega) (.bool true)).kept (grownBy_putObj' _ D (.deferred none)) (by simp; omega)
    have p2 := ((h1.other (B' := w.heap.size) (by omega) (.slice A n c)).set (.bool true)).kept (grownBy_putObj' _ D (.deferred none)) (by simp; omega)
    have hb1 := (hB.setCell (p := ⟨w.heap.size, 0, none⟩) (Nat.le_refl _) (.slice A n c)).setCell (p := ⟨w.heap.size + 1, 0, none⟩) (by simp) (.bool true)
    exact ⟨_, results_cells2 rfl _ _ rfl (loadVar_slice Tryz.underlying150 p1.cell) rfl (loadVar_bool Tryz.underlying4 p2.cell), ⟨_, by rw [hq]; rfl, by rw [hq]; exact ownsRow_putObj q2 _ hK2 rfl⟩, hb1.trans (belowK_b (w := W0) (by omega) _ D _ _ hD hK2 rfl rfl)⟩
  case stop =>
    rintro D c pre W hD hpre ⟨rfl, hv, h1, hB, hbad, hW⟩ hK
    gi_wp2
    refine ⟨by simp, .inl ⟨_, _, rfl, run_takeDeferred hK, ?_⟩⟩
    have hq := grps_no h0 (by obtain ⟨t, ht, hn⟩ := hbad; exact ⟨t, hpre.subset ht, hn⟩)
    have p1 := hv.kept (grownBy_putObj' _ D (.deferred none)) (by simp; omega)
    have p2 := h1.kept (grownBy_putObj' _ D (.deferred none)) (by simp; omega)
    exact ⟨_, results_cells2 rfl _ _ rfl (loadVar_slice Tryz.underlying150 p1.cell) rfl (loadVar_bool Tryz.underlying4 p2.cell), ⟨_, by rw [hq]; rfl, by rw [hq]; exact World.ownsRow_nil _ _ _ _⟩, hB.trans (belowK_b (w := W0) (by omega) _ D _ _ hD hK rfl rfl)⟩
end Go.Proofs.YtnljjlaececnkaaGreatDoor
