/-
  The prefix of an address's first bits; the plain number of an error. Condition: an address is sixteen bytes, a length a machine's number.
-/
import Derived.Test.YtnljjlaececnkaaGreatDoorBA
namespace Go.Proofs.YtnljjlaececnkaaGreatDoor
open Go.RowKit
set_option linter.unusedVariables false
set_option linter.unusedSimpArgs false
theorem num_any {w : World} (n : Int) : Calls Tryz.prog 31 #[.int .i64 n] w fun e w' => e = .returned (.int .i64 n) ∧ w' = w := by
  go_enter Tryz.func31, Tryz.ntmps31
  go_wp2_with fail
  go_ret
  exact ⟨rfl, rfl⟩
theorem num_lit {w : World} (n : Int) : Calls Tryz.prog 31 #[.int .i64 n] w fun e w' => e = .returned (.int .i64 n) ∧ Below w.heap.size w w' := (num_any n).mono fun e w' h => ⟨h.1, by rw [h.2]; exact Below.refl _ _⟩
theorem wpList_build2 {P : Program} {ops : Array Oper} {rest : List Oper} {o : Oper} {a : Act} {w : World} {Q : Exit → Act → World → Prop} (hgd : o.guard = none) (t : TypeId) (i j : Nat) (x y : Operand) (ho : o.op = .build t #[(i, x), (j, y)]) {vx vy : Value} (hx : a.eval x = vx) (hy : a.eval y = vy) {cells : Array Value} (h : P.built t [(i, vx), (j, vy)] = some cells)
    (hK : wpList P ops Q rest (a.put o.dst (.agg cells)) w) : wpList P ops Q (o :: rest) a w := wpList_run hgd (exec_build2 ho hx hy h) hK
def okP (o : Option Pf) : Pf := o.getD zeroP
def OfR (o : Option Pf) (e : Ending) : Prop := e = .returned (.tuple #[vPf (okP o), .int .i64 (if o.isSome then 0 else 2)])
set_option maxRecDepth 100000 in
set_option maxHeartbeats 1600000 in
theorem of_yes {w : World} {a : List Int} (ha : isA a) {n f off : Int} (hf : fam a = f) (ho : offOf f = off) (o0 : 0 ≤ off) (o1 : off ≤ 96) (h0 : 0 ≤ n) (h1 : n ≤ 128 - off) : Calls Tryz.prog 53 #[vA a, .int .i64 n] w fun e w' => OfR (ofP a n) e ∧ Below w.heap.size w w' := by
  have hr : ofP a n = some ⟨msk a (off + n), off + n⟩ := by unfold ofP; rw [hf, ho, if_pos ⟨h0, h1⟩]
  have hm := isA_msk ha (off + n)
  have B0 := Bx.start2 w (oA a) (oP zeroP)
  replace hr := Lib.hid hr
  have Ha := Lib.hid ha
  replace hm := Lib.hid hm
  have hfa := fun {W : World} => fam_any (w := W) ha
  rw [hf] at hfa
  have hsh := fun {W : World} => shared_any (w := W) f
  rw [ho] at hsh
  clear ha hf ho
  unfold vA
  go_enter Tryz.func53, Tryz.ntmps53
  go_wp2_with (first
    | (refine wpList_load_mid rfl 42 (.tmp 2) rfl w.heap.size 0 rfl (nums .u8 a) _ (row_load B0.2.1.1) Tryz.underlying42 rfl (info42 Ha.out) ?_)
    | (go_at_call 32; refine hfa.mono ?_; clear hfa; rintro e w1 ⟨rfl, bel⟩; have B1 := B0.go bel; clear bel)
    | (go_at_call 122; refine hsh.mono ?_; clear hsh; rintro e w2 ⟨rfl, rfl⟩)
    | (refine wpList_load_mid rfl 42 (.tmp 2) rfl w.heap.size 0 rfl (nums .u8 a) _ (row_load B1.2.1.1) Tryz.underlying42 rfl (info42 Ha.out) ?_)
    | (go_at_call 111; refine (masked_any Ha.out (off + n) (by omega) (by omega)).mono ?_; rintro e w3 ⟨rfl, bel⟩; have B2 := B1.go bel; clear bel)
    | (refine wpList_build2 rfl 55 0 1 (.tmp 23) (.tmp 26) rfl (vx := vA (msk a (off + n))) (vy := .int .i64 (off + n)) rfl rfl (built55 hm.out) ?_)
    | (refine wpList_store_row rfl 55 (.tmp 4) (.tmp 27) rfl (w.heap.size + 1) _ rfl rfl 55 (pCs zeroA 0).toArray B2.2.1.2.1 (info55 hm.out _) (by rw [pCs_size zeroA_ok, pCs_size hm.out]) (pCs_one _ _) ?_))
  refine bodyPost_ret (v := .tuple #[vPf ⟨msk a (off + n), off + n⟩, .int .i64 0]) ?_ rfl ⟨by unfold OfR; rw [hr.out]; rfl, below_row B2.1 (Nat.le_succ _) _⟩
  exact results_cell_tmp rfl _ _ rfl (BoxP.run (p := ⟨msk a (off + n), off + n⟩) (setRow_heap _ _ _ _ _ _ B2.2.1.2.1) hm.out).2.2 rfl
set_option maxRecDepth 100000 in
set_option maxHeartbeats 1600000 in
theorem of_no {w : World} {a : List Int} (ha : isA a) {n f off : Int} (hf : fam a = f) (ho : offOf f = off) (o0 : 0 ≤ off) (o1 : off ≤ 96) (h : n < 0 ∨ 0 ≤ n ∧ 128 - off < n) : Calls Tryz.prog 53 #[vA a, .int .i64 n] w fun e w' => OfR (ofP a n) e ∧ Below w.heap.size w w' := by
  have hr : ofP a n = none := by unfold ofP; rw [hf, ho, if_neg (by omega)]
  have B0 := Bx.start2 w (oA a) (oP zeroP)
  replace hr := Lib.hid hr
  have Ha := Lib.hid ha
  have hfa := fun {W : World} => fam_any (w := W) ha
  rw [hf] at hfa
  have hsh := fun {W : World} => shared_any (w := W) f
  rw [ho] at hsh
  clear ha hf ho
  unfold vA
  rcases h with h | ⟨h, h'⟩
  all_goals
    go_enter Tryz.func53, Tryz.ntmps53
    go_wp2_with (first
      | (refine wpList_load_mid rfl 42 (.tmp 2) rfl w.heap.size 0 rfl (nums .u8 a) _ (row_load B0.2.1.1) Tryz.underlying42 rfl (info42 Ha.out) ?_)
      | (go_at_call 32; refine hfa.mono ?_; clear hfa; rintro e w1 ⟨rfl, bel⟩; have B1 := B0.go bel; clear bel)
      | (go_at_call 122; refine hsh.mono ?_; clear hsh; rintro e w2 ⟨rfl, rfl⟩)
      | (refine wpList_store_row rfl 55 (.tmp 4) (.tmp 18) rfl (w.heap.size + 1) (pCs zeroA 0).toArray rfl rfl 55 (pCs zeroA 0).toArray B1.2.1.2.1 (info55 zeroA_ok _) rfl (pCs_one _ _) ?_))
    refine bodyPost_ret (v := .tuple #[vPf zeroP, .int .i64 2]) ?_ rfl ⟨by unfold OfR; rw [hr.out]; rfl, below_row B1.1 (Nat.le_succ _) _⟩
    exact results_cell_tmp rfl _ _ rfl (BoxP.run (p := zeroP) (setRow_heap _ _ _ _ _ _ B1.2.1.2.1) zeroA_ok).2.2 rfl
/-- Of. -/
theorem of_any {w : World} {a : List Int} (ha : isA a) (n : Int) : Calls Tryz.prog 53 #[vA a, .int .i64 n] w fun e w' => OfR (ofP a n) e ∧ Below w.heap.size w w' := by
  have ho : 0 ≤ offOf (fam a) ∧ offOf (fam a) ≤ 96 := by unfold offOf; split <;> omega
  by_cases h0 : n < 0
  · exact of_no ha rfl rfl ho.1 ho.2 (.inl h0)
  · by_cases h1 : 128 - offOf (fam a) < n
    · exact of_no ha rfl rfl ho.1 ho.2 (.inr ⟨by omega, h1⟩)
    · exact of_yes ha rfl rfl ho.1 ho.2 (by omega) (by omega)
end Go.Proofs.YtnljjlaececnkaaGreatDoor
