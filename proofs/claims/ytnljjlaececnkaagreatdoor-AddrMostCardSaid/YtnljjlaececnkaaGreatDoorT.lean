/-
  ParsePrefix. Condition: the variables hold what their initialisers laid; a text is no longer than memory has room for.
-/
import Derived.Test.YtnljjlaececnkaaGreatDoorR
namespace Go.Proofs.YtnljjlaececnkaaGreatDoor
open Go.RowKit
set_option linter.unusedVariables false
set_option linter.unusedSimpArgs false
theorem sixteen {a : List Int} (h : a.length = 16) : ∃ x0 x1 x2 x3 x4 x5 x6 x7 x8 x9 x10 x11 x12 x13 x14 x15, a = [x0, x1, x2, x3, x4, x5, x6, x7, x8, x9, x10, x11, x12, x13, x14, x15] := by
  match a, h with
  | [x0, x1, x2, x3, x4, x5, x6, x7, x8, x9, x10, x11, x12, x13, x14, x15], _ => exact ⟨x0, x1, x2, x3, x4, x5, x6, x7, x8, x9, x10, x11, x12, x13, x14, x15, rfl⟩
set_option maxRecDepth 100000 in
theorem built55 {a : List Int} {n : Int} (ha : isA a) : Tryz.prog.built 55 [(0, .agg (nums .u8 a).toArray), (1, .int .i64 n)] = some (pCs a n).toArray := by
  obtain ⟨x0, x1, x2, x3, x4, x5, x6, x7, x8, x9, x10, x11, x12, x13, x14, x15, rfl⟩ := sixteen ha.1
  kernel_rfl
set_option maxRecDepth 100000 in
theorem built57 {p q : Pf} (hp : isA p.a) (hq : isA q.a) : Tryz.prog.built 57 [(0, vPf p), (1, vPf q)] = some (pCs p.a p.n ++ pCs q.a q.n).toArray := by
  obtain ⟨a, n⟩ := p
  obtain ⟨b, m⟩ := q
  obtain ⟨x0, x1, x2, x3, x4, x5, x6, x7, x8, x9, x10, x11, x12, x13, x14, x15, rfl⟩ := sixteen hp.1
  obtain ⟨y0, y1, y2, y3, y4, y5, y6, y7, y8, y9, y10, y11, y12, y13, y14, y15, rfl⟩ := sixteen hq.1
  kernel_rfl
theorem wpList_build_is {P : Program} {ops : Array Oper} {rest : List Oper} {o : Oper} {a : Act} {w : World} {Q : Exit → Act → World → Prop} (hg : o.guard = none) (t : TypeId) (parts : Array (Nat × Operand)) (ho : o.op = .build t parts) {cells : Array Value}
    (h : P.built t (parts.map fun (i, x) => (i, a.eval x)).toList = some cells) (hK : wpList P ops Q rest (a.put o.dst (.agg cells)) w) : wpList P ops Q (o :: rest) a w :=
  wpList_build hg t parts ho (by rw [h]; rfl) (by rw [h]; exact hK)
theorem decS_rng {s : ByteArray} {v : Int} (h : decS s 3 = some v) : 0 ≤ v ∧ v ≤ 999 := by
  unfold decS at h
  split at h
  · split at h
    · rename_i hc
      cases h
      obtain ⟨h1, h2, h3⟩ := hc
      refine ⟨h3, ?_⟩
      have hl : (Lib.itoa v).length = s.size := by rw [h2]; exact Array.length_toList
      unfold Lib.itoa at hl
      rw [if_neg (by omega)] at hl
      rw [Lib.decDigits_length] at hl
      have h4 := Lib.lt_pow_nDigits v.toNat
      have h5 : 10 ^ Lib.nDigits v.toNat ≤ 10 ^ 3 := Nat.pow_le_pow_right (by decide) (by omega)
      omega
    · cases h
  · cases h
theorem dec_is {w : World} (E : Env w) {t : ByteArray} {v : Int} (hs : t.size ≤ 140737488351232) (h : decS t 3 = some v) : Calls Tryz.prog 124 #[.string t, .int .i64 3] w fun e w' => e = .returned (.tuple #[.int .i64 v, .bool true]) ∧ Below w.heap.size w w' :=
  (dec_any E t hs 3).mono fun e w' ⟨⟨n, b, he, hb, hv⟩, bel⟩ => ⟨by rw [he, hb, hv v h, h]; rfl, bel⟩
theorem dec_isnt {w : World} (E : Env w) {t : ByteArray} (hs : t.size ≤ 140737488351232) (h : decS t 3 = none) : Calls Tryz.prog 124 #[.string t, .int .i64 3] w fun e w' => (∃ n, e = .returned (.tuple #[.int .i64 n, .bool false])) ∧ Below w.heap.size w w' :=
  (dec_any E t hs 3).mono fun e w' ⟨⟨n, b, he, hb, hv⟩, bel⟩ => ⟨⟨n, by rw [he, hb, h]; rfl⟩, bel⟩
theorem check_yes {w : World} {p : Pf} (hp : p.ok) (h : chk p = true) : Calls Tryz.prog 38 #[.agg (pCs p.a p.n).toArray] w fun e w' => e = .returned (.int .i64 0) ∧ Below w.heap.size w w' :=
  (check_any hp).mono fun e w' he => ⟨by rw [he.1, h]; rfl, he.2⟩
theorem check_nope {w : World} {p : Pf} (hp : p.ok) (h : chk p = false) : Calls Tryz.prog 38 #[.agg (pCs p.a p.n).toArray] w fun e w' => e = .returned (.int .i64 21) ∧ Below w.heap.size w w' :=
  (check_any hp).mono fun e w' he => ⟨by rw [he.1, h]; rfl, he.2⟩
theorem AllB.alloc {W : World} {l : List (Nat × Obj)} (h : AllB W l) (o : Obj) : AllB (W.alloc o) l := AllB.go ((Below.refl W.heap.size W).alloc (Nat.le_refl _) o) h
theorem Bx.alloc {w W : World} {N : Nat} {l : List (Nat × Obj)} (h : Bx w N l W) (o : Obj) : Bx w N ((W.heap.size, o) :: l) (W.alloc o) :=
  ⟨h.1.alloc h.2.2 o, ⟨box1 W o, h.2.1.alloc o⟩, by have := h.2.2; simp; omega⟩
theorem AllB.setRow {W : World} {g : Nat} {cs : Array Value} : ∀ {l : List (Nat × Obj)}, AllB W l → (∀ x ∈ l, x.1 ≠ g) → AllB (W.setRow g cs) l
  | [], _, _ => trivial
  | x :: l, ⟨h, r⟩, hn => ⟨by rw [setRow_other _ _ _ _ (hn x (by simp))]; exact h, AllB.setRow r (fun y hy => hn y (by simp [hy]))⟩
theorem Bx.set1 {w W : World} {N g : Nat} {l : List (Nat × Obj)} {old : Array Value} {t : TypeId} (h : Bx w N ((g, .cells old t (0, 0)) :: l) W) (cs : Array Value) (hN : N ≤ g) (hn : ∀ x ∈ l, x.1 ≠ g) : Bx w N ((g, .cells cs t (0, 0)) :: l) (W.setRow g cs) :=
  ⟨below_row h.1 hN cs, ⟨setRow_heap _ _ _ _ _ _ h.2.1.1, h.2.1.2.setRow hn⟩, by rw [setRow_size]; exact h.2.2⟩
theorem quiet_build {P : Program} {C : World → Prop} {o : Oper} {a : Act} {w : World} (t : TypeId) (parts : Array (Nat × Operand)) (ho : o.op = .build t parts) {cells : Array Value} (h : P.built t (parts.map fun (i, x) => (i, a.eval x)).toList = some cells) : Oper.quietAt P o a C w (.agg cells) := by
  unfold Oper.quietAt execOp
  simp only [ho, Sem.run_bind, run_build w t _ cells h, Sem.run_pure, Result.andThen_ok]
  exact ⟨rfl, rfl⟩
theorem wpList_store_at {P : Program} {ops : Array Oper} {rest : List Oper} {o : Oper} {a : Act} {w : World} {Q : Exit → Act → World → Prop} (hgd : o.guard = none) (ty : TypeId) (x y : Operand) (ho : o.op = .store ty x y) (g : Nat) (hg : w.heap.size = g)
    {cells old : Array Value} {t : TypeId} (hx : a.eval x = .pointer (some ⟨g, 0, none⟩)) (hy : a.eval y = .agg cells) (hi : (P.info? ty).map (·.size) = some cells.size) (hold : old.size = cells.size) (h1 : cells.all (·.oneCell') = true)
    (h : wpList P ops Q rest (a.put o.dst undef) (w.alloc (.cells cells t))) : wpList P ops Q (o :: rest) a (w.alloc (.cells old t)) := by
  subst hg
  exact wpList_store_new hgd ty x y ho hx hy hi hold h1 h
def PPR (s : ByteArray) (e : Ending) : Prop := e = .returned (.tuple #[vPf (parsePS s).1, .int .i64 (parsePS s).2])
theorem zeroP_ok : zeroP.ok := ⟨zeroA_ok, rfl⟩
set_option maxRecDepth 100000 in
set_option maxHeartbeats 1600000 in
theorem pp_dq {w : World} (E : Env w) {s : ByteArray} (hs : s.size < 4294967281) {L R : ByteArray} {g : Bool} (hL : L.size ≤ s.size) (hR : R.size ≤ s.size) (hcut : ∀ {w : World}, Env w → Calls Tryz.prog 123 #[.string s, .string ⟨#[47]⟩] w fun e w' => e = .returned (.tuple #[.string L, .string R, .bool g]) ∧ Below w.heap.size w w') (hres : parsePS s = (zeroP, 20)) (hd : decS R 3 = none) {a : List Int} (ok : isA a) (hq : okA (quadS L) = a ∧ (quadS L).isSome = true) : Calls Tryz.prog 56 #[.string s] w fun e w' => PPR s e ∧ Below w.heap.size w w' := by
  have B0 := Bx.start1 w (oP zeroP)
  have E0 := (E.go B0.1).2
  replace hres := Lib.hid hres
  go_enter Tryz.func56, Tryz.ntmps56
  go_wp2_with (first
    | (go_at_call 123; refine (hcut E0).mono ?_; rintro e w1 ⟨rfl, bel⟩; have E1 := (E0.go bel).2; have B1 := B0.go bel; clear bel)
    | (go_at_call 124; refine (dec_isnt E1 (by omega) hd).mono ?_; rintro e w2 ⟨⟨n, rfl⟩, bel⟩; have E2 := (E1.go bel).2; have B2 := B1.go bel; clear bel)
    | (go_at_call 101; refine (quad_is E2 (by omega) hq).mono ?_; rintro e w3 ⟨rfl, bel⟩; have E3 := (E2.go bel).2; have LT3 := lt_of_obj (B2.go bel).2.1.1; have B3 := (B2.go bel).alloc (oA a); have E4 := (E3.go ((Below.refl w3.heap.size w3).alloc (Nat.le_refl _) (oA a))).2; clear bel)
    | (refine wpList_store_new rfl 42 (.tmp 10) (.tmp 28) rfl rfl rfl (info42 ok) (by rw [sizeA ok] <;> rfl) (numsA_one _) ?_)
    | (refine wpList_store_row rfl 55 (.tmp 2) (.tmp 43) rfl w.heap.size (pCs zeroA 0).toArray rfl rfl 55 (pCs zeroA 0).toArray B3.2.1.2.1 (info55 zeroA_ok _) rfl (pCs_one _ _) ?_))
  refine bodyPost_ret (v := .tuple #[vPf zeroP, .int .i64 20]) ?_ rfl ⟨by unfold PPR; rw [hres.out] <;> rfl, below_row B3.1 (Nat.le_refl _) _⟩
  exact results_cell_tmp rfl _ _ rfl (BoxP.run (p := zeroP) (setRow_heap _ _ _ _ _ _ B3.2.1.2.1) zeroA_ok).2.2 rfl
set_option maxRecDepth 100000 in
set_option maxHeartbeats 1600000 in
theorem pp_dc {w : World} (E : Env w) {s : ByteArray} (hs : s.size < 4294967281) {L R : ByteArray} {g : Bool} (hL : L.size ≤ s.size) (hR : R.size ≤ s.size) (hcut : ∀ {w : World}, Env w → Calls Tryz.prog 123 #[.string s, .string ⟨#[47]⟩] w fun e w' => e = .returned (.tuple #[.string L, .string R, .bool g]) ∧ Below w.heap.size w w') (hres : parsePS s = (zeroP, 20)) (hd : decS R 3 = none) (hq : okA (quadS L) = zeroA ∧ (quadS L).isSome = false) {a : List Int} (ok : isA a) (hcol : okA (colS L) = a ∧ (colS L).isSome = true) : Calls Tryz.prog 56 #[.string s] w fun e w' => PPR s e ∧ Below w.heap.size w w' := by
  have B0 := Bx.start1 w (oP zeroP)
  have E0 := (E.go B0.1).2
  replace hres := Lib.hid hres
  go_enter Tryz.func56, Tryz.ntmps56
  go_wp2_with (first
    | (go_at_call 123; refine (hcut E0).mono ?_; rintro e w1 ⟨rfl, bel⟩; have E1 := (E0.go bel).2; have B1 := B0.go bel; clear bel)
    | (go_at_call 124; refine (dec_isnt E1 (by omega) hd).mono ?_; rintro e w2 ⟨⟨n, rfl⟩, bel⟩; have E2 := (E1.go bel).2; have B2 := B1.go bel; clear bel)
    | (go_at_call 101; refine (quad_is E2 (by omega) hq).mono ?_; rintro e w3 ⟨rfl, bel⟩; have E3 := (E2.go bel).2; have LT3 := lt_of_obj (B2.go bel).2.1.1; have B3 := (B2.go bel).alloc (oA zeroA); have E4 := (E3.go ((Below.refl w3.heap.size w3).alloc (Nat.le_refl _) (oA zeroA))).2; clear bel)
    | (refine wpList_store_new rfl 42 (.tmp 10) (.tmp 28) rfl rfl rfl (info42 zeroA_ok) (by rw [sizeA zeroA_ok] <;> rfl) (numsA_one _) ?_)
    | (go_at_call 102; refine (col_is E4 (by omega) hcol).mono ?_; rintro e w4 ⟨rfl, bel⟩; have B4 := B3.go bel; have B5 := B4.set1 (nums .u8 a).toArray (Nat.le_of_lt LT3) (by intro x hx; simp at hx; subst hx; exact Nat.ne_of_lt LT3); clear bel)
    | (refine wpList_store_row rfl 42 (.tmp 10) (.tmp 35) rfl w3.heap.size _ rfl rfl 42 (nums .u8 zeroA).toArray B4.2.1.1 (info42 ok) (by rw [sizeA zeroA_ok, sizeA ok]) (numsA_one _) ?_)
    | (refine wpList_store_row rfl 55 (.tmp 2) (.tmp 43) rfl w.heap.size (pCs zeroA 0).toArray rfl rfl 55 (pCs zeroA 0).toArray B5.2.1.2.1 (info55 zeroA_ok _) rfl (pCs_one _ _) ?_))
  refine bodyPost_ret (v := .tuple #[vPf zeroP, .int .i64 20]) ?_ rfl ⟨by unfold PPR; rw [hres.out] <;> rfl, below_row B5.1 (Nat.le_refl _) _⟩
  exact results_cell_tmp rfl _ _ rfl (BoxP.run (p := zeroP) (setRow_heap _ _ _ _ _ _ B5.2.1.2.1) zeroA_ok).2.2 rfl
set_option maxRecDepth 100000 in
set_option maxHeartbeats 1600000 in
theorem pp_dn {w : World} (E : Env w) {s : ByteArray} (hs : s.size < 4294967281) {L R : ByteArray} {g : Bool} (hL : L.size ≤ s.size) (hR : R.size ≤ s.size) (hcut : ∀ {w : World}, Env w → Calls Tryz.prog 123 #[.string s, .string ⟨#[47]⟩] w fun e w' => e = .returned (.tuple #[.string L, .string R, .bool g]) ∧ Below w.heap.size w w') (hres : parsePS s = (zeroP, 20)) (hd : decS R 3 = none) (hq : okA (quadS L) = zeroA ∧ (quadS L).isSome = false) (hcol : okA (colS L) = zeroA ∧ (colS L).isSome = false) : Calls Tryz.prog 56 #[.string s] w fun e w' => PPR s e ∧ Below w.heap.size w w' := by
  have B0 := Bx.start1 w (oP zeroP)
  have E0 := (E.go B0.1).2
  replace hres := Lib.hid hres
  go_enter Tryz.func56, Tryz.ntmps56
  go_wp2_with (first
    | (go_at_call 123; refine (hcut E0).mono ?_; rintro e w1 ⟨rfl, bel⟩; have E1 := (E0.go bel).2; have B1 := B0.go bel; clear bel)
    | (go_at_call 124; refine (dec_isnt E1 (by omega) hd).mono ?_; rintro e w2 ⟨⟨n, rfl⟩, bel⟩; have E2 := (E1.go bel).2; have B2 := B1.go bel; clear bel)
    | (go_at_call 101; refine (quad_is E2 (by omega) hq).mono ?_; rintro e w3 ⟨rfl, bel⟩; have E3 := (E2.go bel).2; have LT3 := lt_of_obj (B2.go bel).2.1.1; have B3 := (B2.go bel).alloc (oA zeroA); have E4 := (E3.go ((Below.refl w3.heap.size w3).alloc (Nat.le_refl _) (oA zeroA))).2; clear bel)
    | (refine wpList_store_new rfl 42 (.tmp 10) (.tmp 28) rfl rfl rfl (info42 zeroA_ok) (by rw [sizeA zeroA_ok] <;> rfl) (numsA_one _) ?_)
    | (go_at_call 102; refine (col_is E4 (by omega) hcol).mono ?_; rintro e w4 ⟨rfl, bel⟩; have B4 := B3.go bel; have B5 := B4.set1 (nums .u8 zeroA).toArray (Nat.le_of_lt LT3) (by intro x hx; simp at hx; subst hx; exact Nat.ne_of_lt LT3); clear bel)
    | (refine wpList_store_row rfl 42 (.tmp 10) (.tmp 35) rfl w3.heap.size _ rfl rfl 42 (nums .u8 zeroA).toArray B4.2.1.1 (info42 zeroA_ok) (rfl) (numsA_one _) ?_)
    | (refine wpList_store_row rfl 55 (.tmp 2) (.tmp 43) rfl w.heap.size (pCs zeroA 0).toArray rfl rfl 55 (pCs zeroA 0).toArray B5.2.1.2.1 (info55 zeroA_ok _) rfl (pCs_one _ _) ?_))
  refine bodyPost_ret (v := .tuple #[vPf zeroP, .int .i64 20]) ?_ rfl ⟨by unfold PPR; rw [hres.out] <;> rfl, below_row B5.1 (Nat.le_refl _) _⟩
  exact results_cell_tmp rfl _ _ rfl (BoxP.run (p := zeroP) (setRow_heap _ _ _ _ _ _ B5.2.1.2.1) zeroA_ok).2.2 rfl
set_option maxRecDepth 100000 in
set_option maxHeartbeats 1600000 in
theorem pp_n {w : World} (E : Env w) {s : ByteArray} (hs : s.size < 4294967281) {L R : ByteArray} {g : Bool} (hL : L.size ≤ s.size) (hR : R.size ≤ s.size) (hcut : ∀ {w : World}, Env w → Calls Tryz.prog 123 #[.string s, .string ⟨#[47]⟩] w fun e w' => e = .returned (.tuple #[.string L, .string R, .bool g]) ∧ Below w.heap.size w w') (hres : parsePS s = (zeroP, 20)) {n : Int} (hd : decS R 3 = some n) (hq : okA (quadS L) = zeroA ∧ (quadS L).isSome = false) (hcol : okA (colS L) = zeroA ∧ (colS L).isSome = false) : Calls Tryz.prog 56 #[.string s] w fun e w' => PPR s e ∧ Below w.heap.size w w' := by
  have B0 := Bx.start1 w (oP zeroP)
  have E0 := (E.go B0.1).2
  replace hres := Lib.hid hres
  go_enter Tryz.func56, Tryz.ntmps56
  go_wp2_with (first
    | (go_at_call 123; refine (hcut E0).mono ?_; rintro e w1 ⟨rfl, bel⟩; have E1 := (E0.go bel).2; have B1 := B0.go bel; clear bel)
    | (go_at_call 124; refine (dec_is E1 (by omega) hd).mono ?_; rintro e w2 ⟨rfl, bel⟩; have E2 := (E1.go bel).2; have B2 := B1.go bel; clear bel)
    | (go_at_call 101; refine (quad_is E2 (by omega) hq).mono ?_; rintro e w3 ⟨rfl, bel⟩; have E3 := (E2.go bel).2; have LT3 := lt_of_obj (B2.go bel).2.1.1; have B3 := (B2.go bel).alloc (oA zeroA); have E4 := (E3.go ((Below.refl w3.heap.size w3).alloc (Nat.le_refl _) (oA zeroA))).2; clear bel)
    | (refine wpList_store_new rfl 42 (.tmp 10) (.tmp 28) rfl rfl rfl (info42 zeroA_ok) (by rw [sizeA zeroA_ok] <;> rfl) (numsA_one _) ?_)
    | (go_at_call 102; refine (col_is E4 (by omega) hcol).mono ?_; rintro e w4 ⟨rfl, bel⟩; have B4 := B3.go bel; have B5 := B4.set1 (nums .u8 zeroA).toArray (Nat.le_of_lt LT3) (by intro x hx; simp at hx; subst hx; exact Nat.ne_of_lt LT3); clear bel)
    | (refine wpList_store_row rfl 42 (.tmp 10) (.tmp 35) rfl w3.heap.size _ rfl rfl 42 (nums .u8 zeroA).toArray B4.2.1.1 (info42 zeroA_ok) (rfl) (numsA_one _) ?_)
    | (refine wpList_store_row rfl 55 (.tmp 2) (.tmp 43) rfl w.heap.size (pCs zeroA 0).toArray rfl rfl 55 (pCs zeroA 0).toArray B5.2.1.2.1 (info55 zeroA_ok _) rfl (pCs_one _ _) ?_))
  refine bodyPost_ret (v := .tuple #[vPf zeroP, .int .i64 20]) ?_ rfl ⟨by unfold PPR; rw [hres.out] <;> rfl, below_row B5.1 (Nat.le_refl _) _⟩
  exact results_cell_tmp rfl _ _ rfl (BoxP.run (p := zeroP) (setRow_heap _ _ _ _ _ _ B5.2.1.2.1) zeroA_ok).2.2 rfl
end Go.Proofs.YtnljjlaececnkaaGreatDoor
