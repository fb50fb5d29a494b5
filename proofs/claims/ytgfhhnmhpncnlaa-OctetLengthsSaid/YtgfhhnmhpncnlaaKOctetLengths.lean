/-
  OctetLengths' walk: it returns true. No condition.
-/
import Derived.Test.YtgfhhnmhpncnlaaO
import Derived.Test.YtgfhhnmhpncnlaaH
namespace Go.Proofs.Ytgfhhnmhpncnlaa
open Go.RowKit
set_option linter.unusedVariables false
set_option linter.unusedSimpArgs false

set_option maxHeartbeats 3200000 in
theorem OctetLengths_main {w : World} {v0 v1 v2 : Value} {l0 l1 l2 : List Int} (h0 : Bs w (fun _ => False) v0 l0) (h1 : Row w (fun _ => False) 1 v1 l1.length (nums .u16 l1)) (h2 : Row w (fun _ => False) 1 v2 l2.length (nums .u32 l2))
    (n1 : isN 65536 l1) (n2 : isN 4294967296 l2) (b0 : l0.length ≤ 20000) (b1 : l1.length ≤ 60) (b2 : l2.length ≤ 60) :
    Calls Try.prog 8 #[v0, v1, v2] w fun e w' => e = .returned (.bool true) ∧ Below w.heap.size w w' := by
  obtain ⟨A0, c0, rfl, -⟩ := id h0
  obtain ⟨A1, c1, rfl, -⟩ := h1.head
  obtain ⟨A2, c2, rfl, -⟩ := h2.head
  have d0 : decide ((20000 : Int) < l0.length) = false := by simp; omega
  have d1 : decide ((60 : Int) < l1.length) = false := by simp; omega
  have d2 : decide ((60 : Int) < l2.length) = false := by simp; omega
  have d0' : decide (20000 < l0.length) = false := by simp; omega
  have d1' : decide (60 < l1.length) = false := by simp; omega
  have d2' : decide (60 < l2.length) = false := by simp; omega
  have g0 := h0.out
  have g1 := h1.out
  have g2 := h2.out
  clear h0 h1 h2
  go_enter Try.func8, Try.ntmps8
  go_wp2_with (first
    | (at_builtin; refine wpList_cloneB rfl (.tmp 23) (.tmp 24) rfl rfl rfl g0 (by omega) ?_; intro x1 w1 o1 lo1 bl1)
    | (go_at_call 33; refine (Put16_any o1 (g1.later bl1) (fun b hb => lo1 b hb) n1 (by omega)).mono ?_; rintro e w2 ⟨x2, rfl, o2, nx2, fr2⟩; have bl2 := bl1.trans (fr2.belowB lo1 bl1.size); have lo2 := lo1.next nx2 bl1.size)
    | (at_builtin; refine wpList_cloneB rfl (.tmp 28) (.tmp 29) rfl rfl rfl (g0.later bl2) (by omega) ?_; intro x3 w3 o3 lo3 bl3)
    | (go_at_call 32; refine (Put32_any o3 ((g2.later bl2).later (bl3.mono bl2.size)) (fun b hb => Nat.le_trans bl2.size (lo3 b hb)) n2 (by omega)).mono ?_; rintro e w4 ⟨x4, rfl, o4, nx4, fr4⟩; have bl4 := bl3.trans (fr4.belowB lo3 bl3.size); have lo4 := lo3.next nx4 bl3.size))
  have o2' := o2.below bl4 o2.lt
  have bl5 := bl2.trans (bl4.mono bl2.size)
  have e2 : (l0 ++ putAll 2 l1).length = l0.length + 2 * l1.length := by rw [List.length_append, putAll_length]; omega
  have e4 : (l0 ++ putAll 4 l2).length = l0.length + 4 * l2.length := by rw [List.length_append, putAll_length]; omega
  obtain ⟨A3, c3, hx2⟩ := o2.slice
  obtain ⟨A4, c4, hx4⟩ := o4.slice
  have q2 := o2'.old
  have q4 := o4.old
  have q0 := (g0.later bl5).out
  rw [hx2] at q2
  rw [hx4] at q4
  rw [e2] at hx2 q2
  rw [e4] at hx4 q4
  subst hx2 hx4
  have k2 := q2.take (j := l0.length) (by omega)
  have k4 := q4.take (j := l0.length) (by omega)
  rw [List.take_left] at k2 k4
  obtain ⟨-, hc2, -, hn2⟩ := q2.nilcap
  obtain ⟨-, hc4, -, hn4⟩ := q4.nilcap
  have hcut2 := cut_take (P := Try.prog) 22 5 .i64 Try.underlying22 Try.info5 A3 (l0.length + 2 * l1.length) c3 l0.length (by omega) hc2 hn2
  have hcut4 := cut_take (P := Try.prog) 22 5 .i64 Try.underlying22 Try.info5 A4 (l0.length + 4 * l2.length) c4 l0.length (by omega) hc4 hn4
  have hS : ∀ W, Below w4.heap.size w4 W → (convert 22 9 (.slice A3 l0.length c3)).run Try.prog W = .ok (.string (strOfNums l0)) W ∧ (convert 22 9 (.slice A4 l0.length c4)).run Try.prog W = .ok (.string (strOfNums l0)) W ∧ (convert 22 9 (.slice A0 l0.length c0)).run Try.prog W = .ok (.string (strOfNums l0)) W :=
    fun W hW => ⟨conv_str (k2.later hW), conv_str (k4.later hW), conv_str (q0.later hW)⟩
  have u1 : IntKind.i64.wrap (2 * (l1.length : Int)) = 2 * l1.length := IntWalk.i64_in _ (by omega)
  have u2 : IntKind.i64.wrap ((l0.length : Int) + 2 * l1.length) = l0.length + 2 * l1.length := IntWalk.i64_in _ (by omega)
  have u3 : IntKind.i64.wrap (4 * (l2.length : Int)) = 4 * l2.length := IntWalk.i64_in _ (by omega)
  have u4 : IntKind.i64.wrap ((l0.length : Int) + 4 * l2.length) = l0.length + 4 * l2.length := IntWalk.i64_in _ (by omega)
  have hadd := run_str_add l0 l0 (by omega)
  have hif : (9223372036854775807 < (strOfNums l0).size + (strOfNums l0).size) = False := eq_false (by rw [strOfNums_size]; omega)
  have e5 : ((l0.length + 2 * l1.length : Nat) : Int) = l0.length + 2 * l1.length := by omega
  clear e2 e4 d0 d1 d2 d0' d1' d2' q2 q4 o1 o2 o3 o4 lo1 lo2 lo3 lo4 nx2 nx4 fr2 fr4 o2' g1 g2 n1 n2
  refine wp_region_held_drew (S := (fun W => Below w4.heap.size w4 W ∧ (convert 22 9 (.slice A3 l0.length c3)).run Try.prog W = .ok (.string (strOfNums l0)) W ∧ (convert 22 9 (.slice A4 l0.length c4)).run Try.prog W = .ok (.string (strOfNums l0)) W ∧ (convert 22 9 (.slice A0 l0.length c0)).run Try.prog W = .ok (.string (strOfNums l0)) W)) (by kernel_rfl) (⟨(Below.refl _ _).drew, hS _ ((Below.refl _ _).drew)⟩) (fun hHeld => ?_)
  refine wpAnyH_take (i := 0) (oi := { dst := (some 33), op := (Op.move (Operand.tmp 7)), type := 22, pos := "law.go:145", after := #[], guard := none }) (v := ?_) rfl (by kernel_rfl) (by kernel_rfl) (by kernel_rfl) (fun _ _ _ h => h) (Or.inl ⟨by rfl, ?_⟩) (by assumption) ?_
  rotate_left
  · intro w hSw
    (try dsimp only at hSw)
    go_simp
    with_reducible rfl
  (try simp only [Act.put, List.setIfInBounds_toArray, List.set_cons_zero, List.set_cons_succ])
  refine wpAnyH_take (i := 1) (oi := { dst := (some 34), op := (Op.call { callee := (Callee.builtin Builtin.len), args := #[(Operand.tmp 33)], argTypes := #[22] }), type := 3, pos := "law.go:145", after := #[{ on := 0, ground := Ground.data }], guard := none }) (v := ?_) rfl (by kernel_rfl) (by kernel_rfl) (by kernel_rfl) (fun _ _ _ h => h) (Or.inl ⟨by rfl, ?_⟩) (by assumption) ?_
  rotate_left
  · intro w hSw
    (try dsimp only at hSw)
    go_simp
    with_reducible rfl
  (try simp only [Act.put, List.setIfInBounds_toArray, List.set_cons_zero, List.set_cons_succ])
  refine wpAnyH_take (i := 2) (oi := { dst := (some 35), op := (Op.move (Operand.tmp 0)), type := 22, pos := "law.go:145", after := #[], guard := none }) (v := ?_) rfl (by kernel_rfl) (by kernel_rfl) (by kernel_rfl) (fun _ _ _ h => h) (Or.inl ⟨by rfl, ?_⟩) (by assumption) ?_
  rotate_left
  · intro w hSw
    (try dsimp only at hSw)
    go_simp
    with_reducible rfl
  (try simp only [Act.put, List.setIfInBounds_toArray, List.set_cons_zero, List.set_cons_succ])
  refine wpAnyH_take (i := 3) (oi := { dst := (some 36), op := (Op.call { callee := (Callee.builtin Builtin.len), args := #[(Operand.tmp 35)], argTypes := #[22] }), type := 3, pos := "law.go:145", after := #[{ on := 2, ground := Ground.data }], guard := none }) (v := ?_) rfl (by kernel_rfl) (by kernel_rfl) (by kernel_rfl) (fun _ _ _ h => h) (Or.inl ⟨by rfl, ?_⟩) (by assumption) ?_
  rotate_left
  · intro w hSw
    (try dsimp only at hSw)
    go_simp
    with_reducible rfl
  (try simp only [Act.put, List.setIfInBounds_toArray, List.set_cons_zero, List.set_cons_succ])
  refine wpAnyH_take (i := 4) (oi := { dst := (some 37), op := (Op.move (Operand.tmp 1)), type := 50, pos := "law.go:145", after := #[], guard := none }) (v := ?_) rfl (by kernel_rfl) (by kernel_rfl) (by kernel_rfl) (fun _ _ _ h => h) (Or.inl ⟨by rfl, ?_⟩) (by assumption) ?_
  rotate_left
  · intro w hSw
    (try dsimp only at hSw)
    go_simp
    with_reducible rfl
  (try simp only [Act.put, List.setIfInBounds_toArray, List.set_cons_zero, List.set_cons_succ])
  refine wpAnyH_take (i := 5) (oi := { dst := (some 38), op := (Op.call { callee := (Callee.builtin Builtin.len), args := #[(Operand.tmp 37)], argTypes := #[50] }), type := 3, pos := "law.go:145", after := #[{ on := 4, ground := Ground.data }], guard := none }) (v := ?_) rfl (by kernel_rfl) (by kernel_rfl) (by kernel_rfl) (fun _ _ _ h => h) (Or.inl ⟨by rfl, ?_⟩) (by assumption) ?_
  rotate_left
  · intro w hSw
    (try dsimp only at hSw)
    go_simp
    with_reducible rfl
  (try simp only [Act.put, List.setIfInBounds_toArray, List.set_cons_zero, List.set_cons_succ])
  refine wpAnyH_take (i := 6) (oi := { dst := (some 39), op := (Op.binOp BinOp.mul 3 (Operand.const (Value.int IntKind.i64 2)) (Operand.tmp 38) 3), type := 3, pos := "law.go:145", after := #[{ on := 5, ground := Ground.data }], guard := none }) (v := ?_) rfl (by kernel_rfl) (by kernel_rfl) (by kernel_rfl) (fun _ _ _ h => h) (Or.inl ⟨by rfl, ?_⟩) (by assumption) ?_
  rotate_left
  · intro w hSw
    (try dsimp only at hSw)
    go_simp
    with_reducible rfl
  (try simp only [Act.put, List.setIfInBounds_toArray, List.set_cons_zero, List.set_cons_succ])
  refine wpAnyH_take (i := 7) (oi := { dst := (some 40), op := (Op.binOp BinOp.add 3 (Operand.tmp 36) (Operand.tmp 39) 3), type := 3, pos := "law.go:145", after := #[{ on := 3, ground := Ground.data }, { on := 6, ground := Ground.data }], guard := none }) (v := ?_) rfl (by kernel_rfl) (by kernel_rfl) (by kernel_rfl) (fun _ _ _ h => h) (Or.inl ⟨by rfl, ?_⟩) (by assumption) ?_
  rotate_left
  · intro w hSw
    (try dsimp only at hSw)
    go_simp
    with_reducible rfl
  (try simp only [Act.put, List.setIfInBounds_toArray, List.set_cons_zero, List.set_cons_succ])
  refine wpAnyH_take (i := 8) (oi := { dst := (some 41), op := (Op.binOp BinOp.eql 3 (Operand.tmp 34) (Operand.tmp 40) 3), type := 4, pos := "law.go:145", after := #[{ on := 1, ground := Ground.data }, { on := 7, ground := Ground.data }], guard := none }) (v := ?_) rfl (by kernel_rfl) (by kernel_rfl) (by kernel_rfl) (fun _ _ _ h => h) (Or.inl ⟨by rfl, ?_⟩) (by assumption) ?_
  rotate_left
  · intro w hSw
    (try dsimp only at hSw)
    go_simp
    with_reducible rfl
  (try simp only [Act.put, List.setIfInBounds_toArray, List.set_cons_zero, List.set_cons_succ])
  refine wpAnyH_take (i := 9) (oi := { dst := (some 42), op := (Op.move (Operand.tmp 41)), type := 4, pos := "law.go:145", after := #[{ on := 8, ground := Ground.data }], guard := none }) (v := ?_) rfl (by kernel_rfl) (by kernel_rfl) (by kernel_rfl) (fun _ _ _ h => h) (Or.inl ⟨by rfl, ?_⟩) (by assumption) ?_
  rotate_left
  · intro w hSw
    (try dsimp only at hSw)
    go_simp
    with_reducible rfl
  (try simp only [Act.put, List.setIfInBounds_toArray, List.set_cons_zero, List.set_cons_succ])
  refine wpAnyH_take (i := 10) (oi := { dst := (some 43), op := (Op.move (Operand.tmp 8)), type := 22, pos := "law.go:145", after := #[{ on := 9, ground := Ground.guard }], guard := (some (9, true)) }) (v := ?_) rfl (by kernel_rfl) (by kernel_rfl) (by kernel_rfl) (fun _ _ _ h => h) (Or.inl ⟨by rfl, ?_⟩) (by assumption) ?_
  rotate_left
  · intro w hSw
    (try dsimp only at hSw)
    go_simp
    with_reducible rfl
  (try simp only [Act.put, List.setIfInBounds_toArray, List.set_cons_zero, List.set_cons_succ])
  refine wpAnyH_take (i := 11) (oi := { dst := (some 44), op := (Op.call { callee := (Callee.builtin Builtin.len), args := #[(Operand.tmp 43)], argTypes := #[22] }), type := 3, pos := "law.go:145", after := #[{ on := 10, ground := Ground.data }, { on := 9, ground := Ground.guard }], guard := (some (9, true)) }) (v := ?_) rfl (by kernel_rfl) (by kernel_rfl) (by kernel_rfl) (fun _ _ _ h => h) (Or.inl ⟨by rfl, ?_⟩) (by assumption) ?_
  rotate_left
  · intro w hSw
    (try dsimp only at hSw)
    go_simp
    with_reducible rfl
  (try simp only [Act.put, List.setIfInBounds_toArray, List.set_cons_zero, List.set_cons_succ])
  refine wpAnyH_take (i := 12) (oi := { dst := (some 45), op := (Op.move (Operand.tmp 0)), type := 22, pos := "law.go:145", after := #[{ on := 9, ground := Ground.guard }], guard := (some (9, true)) }) (v := ?_) rfl (by kernel_rfl) (by kernel_rfl) (by kernel_rfl) (fun _ _ _ h => h) (Or.inl ⟨by rfl, ?_⟩) (by assumption) ?_
  rotate_left
  · intro w hSw
    (try dsimp only at hSw)
    go_simp
    with_reducible rfl
  (try simp only [Act.put, List.setIfInBounds_toArray, List.set_cons_zero, List.set_cons_succ])
  refine wpAnyH_take (i := 13) (oi := { dst := (some 46), op := (Op.call { callee := (Callee.builtin Builtin.len), args := #[(Operand.tmp 45)], argTypes := #[22] }), type := 3, pos := "law.go:145", after := #[{ on := 12, ground := Ground.data }, { on := 9, ground := Ground.guard }], guard := (some (9, true)) }) (v := ?_) rfl (by kernel_rfl) (by kernel_rfl) (by kernel_rfl) (fun _ _ _ h => h) (Or.inl ⟨by rfl, ?_⟩) (by assumption) ?_
  rotate_left
  · intro w hSw
    (try dsimp only at hSw)
    go_simp
    with_reducible rfl
  (try simp only [Act.put, List.setIfInBounds_toArray, List.set_cons_zero, List.set_cons_succ])
  refine wpAnyH_take (i := 14) (oi := { dst := (some 47), op := (Op.move (Operand.tmp 2)), type := 51, pos := "law.go:145", after := #[{ on := 9, ground := Ground.guard }], guard := (some (9, true)) }) (v := ?_) rfl (by kernel_rfl) (by kernel_rfl) (by kernel_rfl) (fun _ _ _ h => h) (Or.inl ⟨by rfl, ?_⟩) (by assumption) ?_
  rotate_left
  · intro w hSw
    (try dsimp only at hSw)
    go_simp
    with_reducible rfl
  (try simp only [Act.put, List.setIfInBounds_toArray, List.set_cons_zero, List.set_cons_succ])
  refine wpAnyH_take (i := 15) (oi := { dst := (some 48), op := (Op.call { callee := (Callee.builtin Builtin.len), args := #[(Operand.tmp 47)], argTypes := #[51] }), type := 3, pos := "law.go:145", after := #[{ on := 14, ground := Ground.data }, { on := 9, ground := Ground.guard }], guard := (some (9, true)) }) (v := ?_) rfl (by kernel_rfl) (by kernel_rfl) (by kernel_rfl) (fun _ _ _ h => h) (Or.inl ⟨by rfl, ?_⟩) (by assumption) ?_
  rotate_left
  · intro w hSw
    (try dsimp only at hSw)
    go_simp
    with_reducible rfl
  (try simp only [Act.put, List.setIfInBounds_toArray, List.set_cons_zero, List.set_cons_succ])
  refine wpAnyH_take (i := 16) (oi := { dst := (some 49), op := (Op.binOp BinOp.mul 3 (Operand.const (Value.int IntKind.i64 4)) (Operand.tmp 48) 3), type := 3, pos := "law.go:145", after := #[{ on := 15, ground := Ground.data }, { on := 9, ground := Ground.guard }], guard := (some (9, true)) }) (v := ?_) rfl (by kernel_rfl) (by kernel_rfl) (by kernel_rfl) (fun _ _ _ h => h) (Or.inl ⟨by rfl, ?_⟩) (by assumption) ?_
  rotate_left
  · intro w hSw
    (try dsimp only at hSw)
    go_simp
    with_reducible rfl
  (try simp only [Act.put, List.setIfInBounds_toArray, List.set_cons_zero, List.set_cons_succ])
  refine wpAnyH_take (i := 17) (oi := { dst := (some 50), op := (Op.binOp BinOp.add 3 (Operand.tmp 46) (Operand.tmp 49) 3), type := 3, pos := "law.go:145", after := #[{ on := 13, ground := Ground.data }, { on := 16, ground := Ground.data }, { on := 9, ground := Ground.guard }], guard := (some (9, true)) }) (v := ?_) rfl (by kernel_rfl) (by kernel_rfl) (by kernel_rfl) (fun _ _ _ h => h) (Or.inl ⟨by rfl, ?_⟩) (by assumption) ?_
  rotate_left
  · intro w hSw
    (try dsimp only at hSw)
    go_simp
    with_reducible rfl
  (try simp only [Act.put, List.setIfInBounds_toArray, List.set_cons_zero, List.set_cons_succ])
  refine wpAnyH_take (i := 18) (oi := { dst := (some 51), op := (Op.binOp BinOp.eql 3 (Operand.tmp 44) (Operand.tmp 50) 3), type := 4, pos := "law.go:145", after := #[{ on := 11, ground := Ground.data }, { on := 17, ground := Ground.data }, { on := 9, ground := Ground.guard }], guard := (some (9, true)) }) (v := ?_) rfl (by kernel_rfl) (by kernel_rfl) (by kernel_rfl) (fun _ _ _ h => h) (Or.inl ⟨by rfl, ?_⟩) (by assumption) ?_
  rotate_left
  · intro w hSw
    (try dsimp only at hSw)
    go_simp
    with_reducible rfl
  (try simp only [Act.put, List.setIfInBounds_toArray, List.set_cons_zero, List.set_cons_succ])
  refine wpAnyH_take (i := 19) (oi := { dst := (some 52), op := (Op.pick (Operand.tmp 42) (Operand.tmp 51) (Operand.const (Value.bool false))), type := 4, pos := "law.go:145", after := #[{ on := 9, ground := Ground.data }, { on := 18, ground := Ground.data }], guard := none }) (v := ?_) rfl (by kernel_rfl) (by kernel_rfl) (by kernel_rfl) (fun _ _ _ h => h) (Or.inl ⟨by rfl, ?_⟩) (by assumption) ?_
  rotate_left
  · intro w hSw
    (try dsimp only at hSw)
    go_simp
    with_reducible rfl
  (try simp only [Act.put, List.setIfInBounds_toArray, List.set_cons_zero, List.set_cons_succ])
  refine wpAnyH_take (i := 20) (oi := { dst := (some 53), op := (Op.move (Operand.tmp 52)), type := 4, pos := "law.go:145", after := #[{ on := 19, ground := Ground.data }, { on := 9, ground := Ground.chain }], guard := none }) (v := ?_) rfl (by kernel_rfl) (by kernel_rfl) (by kernel_rfl) (fun _ _ _ h => h) (Or.inl ⟨by rfl, ?_⟩) (by assumption) ?_
  rotate_left
  · intro w hSw
    (try dsimp only at hSw)
    go_simp
    with_reducible rfl
  (try simp only [Act.put, List.setIfInBounds_toArray, List.set_cons_zero, List.set_cons_succ])
  refine wpAnyH_take (i := 21) (oi := { dst := (some 54), op := (Op.move (Operand.tmp 7)), type := 22, pos := "law.go:145", after := #[{ on := 20, ground := Ground.guard }], guard := (some (20, true)) }) (v := ?_) rfl (by kernel_rfl) (by kernel_rfl) (by kernel_rfl) (fun _ _ _ h => h) (Or.inl ⟨by rfl, ?_⟩) (by assumption) ?_
  rotate_left
  · intro w hSw
    (try dsimp only at hSw)
    go_simp
    with_reducible rfl
  (try simp only [Act.put, List.setIfInBounds_toArray, List.set_cons_zero, List.set_cons_succ])
  refine wpAnyH_take (i := 22) (oi := { dst := (some 55), op := (Op.move (Operand.tmp 0)), type := 22, pos := "law.go:145", after := #[{ on := 20, ground := Ground.guard }], guard := (some (20, true)) }) (v := ?_) rfl (by kernel_rfl) (by kernel_rfl) (by kernel_rfl) (fun _ _ _ h => h) (Or.inl ⟨by rfl, ?_⟩) (by assumption) ?_
  rotate_left
  · intro w hSw
    (try dsimp only at hSw)
    go_simp
    with_reducible rfl
  (try simp only [Act.put, List.setIfInBounds_toArray, List.set_cons_zero, List.set_cons_succ])
  refine wpAnyH_take (i := 23) (oi := { dst := (some 56), op := (Op.call { callee := (Callee.builtin Builtin.len), args := #[(Operand.tmp 55)], argTypes := #[22] }), type := 3, pos := "law.go:145", after := #[{ on := 22, ground := Ground.data }, { on := 20, ground := Ground.guard }], guard := (some (20, true)) }) (v := ?_) rfl (by kernel_rfl) (by kernel_rfl) (by kernel_rfl) (fun _ _ _ h => h) (Or.inl ⟨by rfl, ?_⟩) (by assumption) ?_
  rotate_left
  · intro w hSw
    (try dsimp only at hSw)
    go_simp
    with_reducible rfl
  (try simp only [Act.put, List.setIfInBounds_toArray, List.set_cons_zero, List.set_cons_succ])
  refine wpAnyH_take (i := 24) (oi := { dst := (some 57), op := (Op.slice 22 (Operand.tmp 54) none (some (Operand.tmp 56)) none), type := 22, pos := "law.go:145", after := #[{ on := 21, ground := Ground.data }, { on := 23, ground := Ground.data }, { on := 20, ground := Ground.guard }], guard := (some (20, true)) }) (v := ?_) rfl (by kernel_rfl) (by kernel_rfl) (by kernel_rfl) (fun _ _ _ h => h) (Or.inl ⟨by rfl, ?_⟩) (by assumption) ?_
  rotate_left
  · intro w hSw
    (try dsimp only at hSw)
    go_simp
    with_reducible rfl
  (try simp only [Act.put, List.setIfInBounds_toArray, List.set_cons_zero, List.set_cons_succ])
  refine wpAnyH_take (i := 25) (oi := { dst := (some 58), op := (Op.convert 22 9 (Operand.tmp 57)), type := 9, pos := "law.go:145", after := #[{ on := 24, ground := Ground.data }, { on := 20, ground := Ground.guard }], guard := (some (20, true)) }) (v := ?_) rfl (by kernel_rfl) (by kernel_rfl) (by kernel_rfl) (fun _ _ _ h => h) (Or.inl ⟨by rfl, ?_⟩) (by assumption) ?_
  rotate_left
  · intro w hSw
    (try dsimp only at hSw)
    go_simp
    with_reducible rfl
  (try simp only [Act.put, List.setIfInBounds_toArray, List.set_cons_zero, List.set_cons_succ])
  refine wpAnyH_take (i := 26) (oi := { dst := (some 59), op := (Op.move (Operand.tmp 0)), type := 22, pos := "law.go:145", after := #[{ on := 20, ground := Ground.guard }], guard := (some (20, true)) }) (v := ?_) rfl (by kernel_rfl) (by kernel_rfl) (by kernel_rfl) (fun _ _ _ h => h) (Or.inl ⟨by rfl, ?_⟩) (by assumption) ?_
  rotate_left
  · intro w hSw
    (try dsimp only at hSw)
    go_simp
    with_reducible rfl
  (try simp only [Act.put, List.setIfInBounds_toArray, List.set_cons_zero, List.set_cons_succ])
  refine wpAnyH_take (i := 27) (oi := { dst := (some 60), op := (Op.convert 22 9 (Operand.tmp 59)), type := 9, pos := "law.go:145", after := #[{ on := 26, ground := Ground.data }, { on := 20, ground := Ground.guard }], guard := (some (20, true)) }) (v := ?_) rfl (by kernel_rfl) (by kernel_rfl) (by kernel_rfl) (fun _ _ _ h => h) (Or.inl ⟨by rfl, ?_⟩) (by assumption) ?_
  rotate_left
  · intro w hSw
    (try dsimp only at hSw)
    go_simp
    with_reducible rfl
  (try simp only [Act.put, List.setIfInBounds_toArray, List.set_cons_zero, List.set_cons_succ])
  refine wpAnyH_take (i := 28) (oi := { dst := (some 61), op := (Op.binOp BinOp.eql 9 (Operand.tmp 58) (Operand.tmp 60) 9), type := 4, pos := "law.go:145", after := #[{ on := 25, ground := Ground.data }, { on := 27, ground := Ground.data }, { on := 20, ground := Ground.guard }], guard := (some (20, true)) }) (v := ?_) rfl (by kernel_rfl) (by kernel_rfl) (by kernel_rfl) (fun _ _ _ h => h) (Or.inl ⟨by rfl, ?_⟩) (by assumption) ?_
  rotate_left
  · intro w hSw
    (try dsimp only at hSw)
    go_simp
    with_reducible rfl
  (try simp only [Act.put, List.setIfInBounds_toArray, List.set_cons_zero, List.set_cons_succ])
  refine wpAnyH_take (i := 29) (oi := { dst := (some 62), op := (Op.pick (Operand.tmp 53) (Operand.tmp 61) (Operand.const (Value.bool false))), type := 4, pos := "law.go:145", after := #[{ on := 20, ground := Ground.data }, { on := 28, ground := Ground.data }], guard := none }) (v := ?_) rfl (by kernel_rfl) (by kernel_rfl) (by kernel_rfl) (fun _ _ _ h => h) (Or.inl ⟨by rfl, ?_⟩) (by assumption) ?_
  rotate_left
  · intro w hSw
    (try dsimp only at hSw)
    go_simp
    with_reducible rfl
  (try simp only [Act.put, List.setIfInBounds_toArray, List.set_cons_zero, List.set_cons_succ])
  refine wpAnyH_take (i := 30) (oi := { dst := (some 63), op := (Op.move (Operand.tmp 62)), type := 4, pos := "law.go:145", after := #[{ on := 29, ground := Ground.data }, { on := 20, ground := Ground.chain }], guard := none }) (v := ?_) rfl (by kernel_rfl) (by kernel_rfl) (by kernel_rfl) (fun _ _ _ h => h) (Or.inl ⟨by rfl, ?_⟩) (by assumption) ?_
  rotate_left
  · intro w hSw
    (try dsimp only at hSw)
    go_simp
    with_reducible rfl
  (try simp only [Act.put, List.setIfInBounds_toArray, List.set_cons_zero, List.set_cons_succ])
  refine wpAnyH_take (i := 31) (oi := { dst := (some 64), op := (Op.move (Operand.tmp 8)), type := 22, pos := "law.go:145", after := #[{ on := 30, ground := Ground.guard }], guard := (some (30, true)) }) (v := ?_) rfl (by kernel_rfl) (by kernel_rfl) (by kernel_rfl) (fun _ _ _ h => h) (Or.inl ⟨by rfl, ?_⟩) (by assumption) ?_
  rotate_left
  · intro w hSw
    (try dsimp only at hSw)
    go_simp
    with_reducible rfl
  (try simp only [Act.put, List.setIfInBounds_toArray, List.set_cons_zero, List.set_cons_succ])
  refine wpAnyH_take (i := 32) (oi := { dst := (some 65), op := (Op.move (Operand.tmp 0)), type := 22, pos := "law.go:145", after := #[{ on := 30, ground := Ground.guard }], guard := (some (30, true)) }) (v := ?_) rfl (by kernel_rfl) (by kernel_rfl) (by kernel_rfl) (fun _ _ _ h => h) (Or.inl ⟨by rfl, ?_⟩) (by assumption) ?_
  rotate_left
  · intro w hSw
    (try dsimp only at hSw)
    go_simp
    with_reducible rfl
  (try simp only [Act.put, List.setIfInBounds_toArray, List.set_cons_zero, List.set_cons_succ])
  refine wpAnyH_take (i := 33) (oi := { dst := (some 66), op := (Op.call { callee := (Callee.builtin Builtin.len), args := #[(Operand.tmp 65)], argTypes := #[22] }), type := 3, pos := "law.go:145", after := #[{ on := 32, ground := Ground.data }, { on := 30, ground := Ground.guard }], guard := (some (30, true)) }) (v := ?_) rfl (by kernel_rfl) (by kernel_rfl) (by kernel_rfl) (fun _ _ _ h => h) (Or.inl ⟨by rfl, ?_⟩) (by assumption) ?_
  rotate_left
  · intro w hSw
    (try dsimp only at hSw)
    go_simp
    with_reducible rfl
  (try simp only [Act.put, List.setIfInBounds_toArray, List.set_cons_zero, List.set_cons_succ])
  refine wpAnyH_take (i := 34) (oi := { dst := (some 67), op := (Op.slice 22 (Operand.tmp 64) none (some (Operand.tmp 66)) none), type := 22, pos := "law.go:145", after := #[{ on := 31, ground := Ground.data }, { on := 33, ground := Ground.data }, { on := 30, ground := Ground.guard }], guard := (some (30, true)) }) (v := ?_) rfl (by kernel_rfl) (by kernel_rfl) (by kernel_rfl) (fun _ _ _ h => h) (Or.inl ⟨by rfl, ?_⟩) (by assumption) ?_
  rotate_left
  · intro w hSw
    (try dsimp only at hSw)
    go_simp
    with_reducible rfl
  (try simp only [Act.put, List.setIfInBounds_toArray, List.set_cons_zero, List.set_cons_succ])
  refine wpAnyH_take (i := 35) (oi := { dst := (some 68), op := (Op.convert 22 9 (Operand.tmp 67)), type := 9, pos := "law.go:145", after := #[{ on := 34, ground := Ground.data }, { on := 30, ground := Ground.guard }], guard := (some (30, true)) }) (v := ?_) rfl (by kernel_rfl) (by kernel_rfl) (by kernel_rfl) (fun _ _ _ h => h) (Or.inl ⟨by rfl, ?_⟩) (by assumption) ?_
  rotate_left
  · intro w hSw
    (try dsimp only at hSw)
    go_simp
    with_reducible rfl
  (try simp only [Act.put, List.setIfInBounds_toArray, List.set_cons_zero, List.set_cons_succ])
  refine wpAnyH_take (i := 36) (oi := { dst := (some 69), op := (Op.move (Operand.tmp 0)), type := 22, pos := "law.go:145", after := #[{ on := 30, ground := Ground.guard }], guard := (some (30, true)) }) (v := ?_) rfl (by kernel_rfl) (by kernel_rfl) (by kernel_rfl) (fun _ _ _ h => h) (Or.inl ⟨by rfl, ?_⟩) (by assumption) ?_
  rotate_left
  · intro w hSw
    (try dsimp only at hSw)
    go_simp
    with_reducible rfl
  (try simp only [Act.put, List.setIfInBounds_toArray, List.set_cons_zero, List.set_cons_succ])
  refine wpAnyH_take (i := 37) (oi := { dst := (some 70), op := (Op.convert 22 9 (Operand.tmp 69)), type := 9, pos := "law.go:145", after := #[{ on := 36, ground := Ground.data }, { on := 30, ground := Ground.guard }], guard := (some (30, true)) }) (v := ?_) rfl (by kernel_rfl) (by kernel_rfl) (by kernel_rfl) (fun _ _ _ h => h) (Or.inl ⟨by rfl, ?_⟩) (by assumption) ?_
  rotate_left
  · intro w hSw
    (try dsimp only at hSw)
    go_simp
    with_reducible rfl
  (try simp only [Act.put, List.setIfInBounds_toArray, List.set_cons_zero, List.set_cons_succ])
  refine wpAnyH_take (i := 38) (oi := { dst := (some 71), op := (Op.binOp BinOp.eql 9 (Operand.tmp 68) (Operand.tmp 70) 9), type := 4, pos := "law.go:145", after := #[{ on := 35, ground := Ground.data }, { on := 37, ground := Ground.data }, { on := 30, ground := Ground.guard }], guard := (some (30, true)) }) (v := ?_) rfl (by kernel_rfl) (by kernel_rfl) (by kernel_rfl) (fun _ _ _ h => h) (Or.inl ⟨by rfl, ?_⟩) (by assumption) ?_
  rotate_left
  · intro w hSw
    (try dsimp only at hSw)
    go_simp
    with_reducible rfl
  (try simp only [Act.put, List.setIfInBounds_toArray, List.set_cons_zero, List.set_cons_succ])
  refine wpAnyH_take (i := 39) (oi := { dst := (some 72), op := (Op.pick (Operand.tmp 63) (Operand.tmp 71) (Operand.const (Value.bool false))), type := 4, pos := "law.go:145", after := #[{ on := 30, ground := Ground.data }, { on := 38, ground := Ground.data }], guard := none }) (v := ?_) rfl (by kernel_rfl) (by kernel_rfl) (by kernel_rfl) (fun _ _ _ h => h) (Or.inl ⟨by rfl, ?_⟩) (by assumption) ?_
  rotate_left
  · intro w hSw
    (try dsimp only at hSw)
    go_simp
    with_reducible rfl
  (try simp only [Act.put, List.setIfInBounds_toArray, List.set_cons_zero, List.set_cons_succ])
  refine wpAnyH_take (i := 40) (oi := { dst := (some 73), op := (Op.move (Operand.tmp 72)), type := 4, pos := "law.go:145", after := #[{ on := 39, ground := Ground.data }, { on := 30, ground := Ground.chain }], guard := none }) (v := ?_) rfl (by kernel_rfl) (by kernel_rfl) (by kernel_rfl) (fun _ _ _ h => h) (Or.inl ⟨by rfl, ?_⟩) (by assumption) ?_
  rotate_left
  · intro w hSw
    (try dsimp only at hSw)
    go_simp
    with_reducible rfl
  (try simp only [Act.put, List.setIfInBounds_toArray, List.set_cons_zero, List.set_cons_succ])
  refine wpAnyH_take (i := 41) (oi := { dst := (some 74), op := (Op.move (Operand.tmp 0)), type := 22, pos := "law.go:145", after := #[{ on := 40, ground := Ground.guard }], guard := (some (40, true)) }) (v := ?_) rfl (by kernel_rfl) (by kernel_rfl) (by kernel_rfl) (fun _ _ _ h => h) (Or.inl ⟨by rfl, ?_⟩) (by assumption) ?_
  rotate_left
  · intro w hSw
    (try dsimp only at hSw)
    go_simp
    with_reducible rfl
  (try simp only [Act.put, List.setIfInBounds_toArray, List.set_cons_zero, List.set_cons_succ])
  refine wpAnyH_take (i := 43) (oi := { dst := (some 76), op := (Op.move (Operand.tmp 0)), type := 22, pos := "law.go:145", after := #[{ on := 40, ground := Ground.guard }], guard := (some (40, true)) }) (v := ?_) rfl (by kernel_rfl) (by kernel_rfl) (by kernel_rfl) (fun _ _ _ h => h) (Or.inl ⟨by rfl, ?_⟩) (by assumption) ?_
  rotate_left
  · intro w hSw
    (try dsimp only at hSw)
    go_simp
    with_reducible rfl
  (try simp only [Act.put, List.setIfInBounds_toArray, List.set_cons_zero, List.set_cons_succ])
  refine wpAnyH_take (i := 47) (oi := { dst := (some 80), op := (Op.move (Operand.tmp 0)), type := 22, pos := "law.go:145", after := #[{ on := 40, ground := Ground.guard }], guard := (some (40, true)) }) (v := ?_) rfl (by kernel_rfl) (by kernel_rfl) (by kernel_rfl) (fun _ _ _ h => h) (Or.inl ⟨by rfl, ?_⟩) (by assumption) ?_
  rotate_left
  · intro w hSw
    (try dsimp only at hSw)
    go_simp
    with_reducible rfl
  (try simp only [Act.put, List.setIfInBounds_toArray, List.set_cons_zero, List.set_cons_succ])
  refine wpAnyH_take (i := 48) (oi := { dst := (some 81), op := (Op.convert 22 9 (Operand.tmp 80)), type := 9, pos := "law.go:145", after := #[{ on := 47, ground := Ground.data }, { on := 40, ground := Ground.guard }], guard := (some (40, true)) }) (v := ?_) rfl (by kernel_rfl) (by kernel_rfl) (by kernel_rfl) (fun _ _ _ h => h) (Or.inl ⟨by rfl, ?_⟩) (by assumption) ?_
  rotate_left
  · intro w hSw
    (try dsimp only at hSw)
    go_simp
    with_reducible rfl
  (try simp only [Act.put, List.setIfInBounds_toArray, List.set_cons_zero, List.set_cons_succ])
  refine wpAnyH_take (i := 49) (oi := { dst := (some 82), op := (Op.move (Operand.tmp 0)), type := 22, pos := "law.go:145", after := #[{ on := 40, ground := Ground.guard }], guard := (some (40, true)) }) (v := ?_) rfl (by kernel_rfl) (by kernel_rfl) (by kernel_rfl) (fun _ _ _ h => h) (Or.inl ⟨by rfl, ?_⟩) (by assumption) ?_
  rotate_left
  · intro w hSw
    (try dsimp only at hSw)
    go_simp
    with_reducible rfl
  (try simp only [Act.put, List.setIfInBounds_toArray, List.set_cons_zero, List.set_cons_succ])
  refine wpAnyH_take (i := 50) (oi := { dst := (some 83), op := (Op.convert 22 9 (Operand.tmp 82)), type := 9, pos := "law.go:145", after := #[{ on := 49, ground := Ground.data }, { on := 40, ground := Ground.guard }], guard := (some (40, true)) }) (v := ?_) rfl (by kernel_rfl) (by kernel_rfl) (by kernel_rfl) (fun _ _ _ h => h) (Or.inl ⟨by rfl, ?_⟩) (by assumption) ?_
  rotate_left
  · intro w hSw
    (try dsimp only at hSw)
    go_simp
    with_reducible rfl
  (try simp only [Act.put, List.setIfInBounds_toArray, List.set_cons_zero, List.set_cons_succ])
  refine wpAnyH_take (i := 51) (oi := { dst := (some 84), op := (Op.binOp BinOp.add 9 (Operand.tmp 81) (Operand.tmp 83) 9), type := 9, pos := "law.go:145", after := #[{ on := 48, ground := Ground.data }, { on := 50, ground := Ground.data }, { on := 40, ground := Ground.guard }], guard := (some (40, true)) }) (v := ?_) rfl (by kernel_rfl) (by kernel_rfl) (by kernel_rfl) (fun _ _ _ h => h) (Or.inl ⟨by rfl, ?_⟩) (by assumption) ?_
  rotate_left
  · intro w hSw
    (try dsimp only at hSw)
    go_simp
    with_reducible rfl
  (try simp only [Act.put, List.setIfInBounds_toArray, List.set_cons_zero, List.set_cons_succ])
  refine wpAnyH_ready (rs := [42, 44]) (by kernel_rfl) (by simp) ?_
  refine AllReadyH.cons (o := { dst := (some 75), op := (Op.call { callee := (Callee.value (Operand.func 34)), args := #[(Operand.const (Value.slice none 0 0)), (Operand.tmp 74)], argTypes := #[22, 22] }), type := 22, pos := "law.go:145", after := #[{ on := 41, ground := Ground.data }, { on := 40, ground := Ground.chain }, { on := 40, ground := Ground.guard }], guard := (some (40, true)) }) rfl (fun K hK => ?_) (AllReadyH.cons (o := { dst := (some 77), op := (Op.buildSlice 59 1 #[(0, (Operand.tmp 76))]), type := 59, pos := "law.go:145", after := #[{ on := 43, ground := Ground.data }, { on := 40, ground := Ground.guard }], guard := (some (40, true)) }) rfl (fun K hK => ?_) AllReadyH.nil)
  · go_simp
    refine (Put8_any (Ob.nil _) (q0.later ((Below.refl _ _).drew)) (by simp; omega)).mono ?_
    rintro e w5 ⟨x5, rfl, o5, nx5, fr5⟩
    have b5 : Below w4.heap.size w4 w5 := (Below.refl w4.heap.size w4).drew.trans (fr5.belowB (Lo.nil _) (Nat.le_refl _))
    have lo5 := (Lo.nil w4.heap.size).next nx5 (Nat.le_refl _)
    refine hK.out _ _ ?_ (fun hHeld => ?_)
    · exact ⟨b5, hS _ b5⟩
    clear hK K
    (try simp only [Act.put, List.setIfInBounds_toArray, List.set_cons_zero, List.set_cons_succ])
    refine wpAnyH_ready (rs := [44]) (by kernel_rfl) (by simp) ?_
    refine AllReadyH.cons (o := { dst := (some 77), op := (Op.buildSlice 59 1 #[(0, (Operand.tmp 76))]), type := 59, pos := "law.go:145", after := #[{ on := 43, ground := Ground.data }, { on := 40, ground := Ground.guard }], guard := (some (40, true)) }) rfl (fun K hK => ?_) AllReadyH.nil
    go_simp
    have r5 := RowsB.one (S := fun b => x5.ownBlock = some b) ((q0.later b5).mono_l rfl lo5) o5.lt
    have o5' : Ob (w5.alloc (.cells #[.slice A0 l0.length c0] 22)) x5 ([] ++ l0) := o5.fr (S := fun _ => False) ((Fr.refl _ w5).alloc _) (fun _ _ h => h)
    refine hK.out _ _ ?_ (fun hHeld => ?_)
    · exact ⟨b5.alloc b5.size _, hS _ (b5.alloc b5.size _)⟩
    clear hK K
    (try simp only [Act.put, List.setIfInBounds_toArray, List.set_cons_zero, List.set_cons_succ])
    refine wpAnyH_ready (rs := [45]) (by kernel_rfl) (by simp) ?_
    refine AllReadyH.cons (o := { dst := (some 78), op := (Op.call { callee := (Callee.value (Operand.func 36)), args := #[(Operand.tmp 75), (Operand.tmp 77)], argTypes := #[22, 59] }), type := 22, pos := "law.go:145", after := #[{ on := 42, ground := Ground.data }, { on := 44, ground := Ground.data }, { on := 42, ground := Ground.chain }, { on := 40, ground := Ground.guard }], guard := (some (40, true)) }) rfl (fun K hK => ?_) AllReadyH.nil
    go_simp
    refine (PutBytes_any o5' r5 (fun b hb => hb) (by simp; omega)).mono ?_
    rintro e w6 ⟨x6, rfl, o6, nx6, fr6⟩
    have b6 : Below w4.heap.size w4 w6 := (b5.alloc b5.size _).trans (fr6.belowB lo5 (by simp; exact Nat.le_succ_of_le b5.size))
    have q6 := o6.old
    refine hK.out _ _ ?_ (fun hHeld => ?_)
    · exact ⟨b6, hS _ b6⟩
    clear hK K
    (try simp only [Act.put, List.setIfInBounds_toArray, List.set_cons_zero, List.set_cons_succ])
    refine wpAnyH_more (S' := (fun W => (Below w4.heap.size w4 W ∧ (convert 22 9 (.slice A3 l0.length c3)).run Try.prog W = .ok (.string (strOfNums l0)) W ∧ (convert 22 9 (.slice A4 l0.length c4)).run Try.prog W = .ok (.string (strOfNums l0)) W ∧ (convert 22 9 (.slice A0 l0.length c0)).run Try.prog W = .ok (.string (strOfNums l0)) W) ∧ Below w6.heap.size w6 W ∧ (convert 22 9 x6).run Try.prog W = .ok (.string (strOfNums (l0 ++ l0))) W)) (fun _ h => h.1) ?_
    have hHeld2 := And.intro hHeld (And.intro (Below.refl w6.heap.size w6) (show (convert 22 9 x6).run Try.prog w6 = .ok (.string (strOfNums (l0 ++ l0))) w6 from by have := conv_str q6; simpa using this))
    refine wpAnyH_take (i := 46) (oi := { dst := (some 79), op := (Op.convert 22 9 (Operand.tmp 78)), type := 9, pos := "law.go:145", after := #[{ on := 45, ground := Ground.data }, { on := 40, ground := Ground.guard }], guard := (some (40, true)) }) (v := ?_) rfl (by kernel_rfl) (by kernel_rfl) (by kernel_rfl) (fun _ _ _ h => h) (Or.inl ⟨by rfl, ?_⟩) (by assumption) ?_
    rotate_left
    · intro w hSw
      (try dsimp only at hSw)
      go_simp
      with_reducible rfl
    (try simp only [Act.put, List.setIfInBounds_toArray, List.set_cons_zero, List.set_cons_succ])
    refine wpAnyH_take (i := 52) (oi := { dst := (some 85), op := (Op.binOp BinOp.eql 9 (Operand.tmp 79) (Operand.tmp 84) 9), type := 4, pos := "law.go:145", after := #[{ on := 46, ground := Ground.data }, { on := 51, ground := Ground.data }, { on := 40, ground := Ground.guard }], guard := (some (40, true)) }) (v := ?_) rfl (by kernel_rfl) (by kernel_rfl) (by kernel_rfl) (fun _ _ _ h => h) (Or.inl ⟨by rfl, ?_⟩) (by assumption) ?_
    rotate_left
    · intro w hSw
      (try dsimp only at hSw)
      go_simp
      with_reducible rfl
    (try simp only [Act.put, List.setIfInBounds_toArray, List.set_cons_zero, List.set_cons_succ])
    refine wpAnyH_take (i := 53) (oi := { dst := (some 86), op := (Op.pick (Operand.tmp 73) (Operand.tmp 85) (Operand.const (Value.bool false))), type := 4, pos := "law.go:145", after := #[{ on := 40, ground := Ground.data }, { on := 52, ground := Ground.data }], guard := none }) (v := ?_) rfl (by kernel_rfl) (by kernel_rfl) (by kernel_rfl) (fun _ _ _ h => h) (Or.inl ⟨by rfl, ?_⟩) (by assumption) ?_
    rotate_left
    · intro w hSw
      (try dsimp only at hSw)
      go_simp
      with_reducible rfl
    (try simp only [Act.put, List.setIfInBounds_toArray, List.set_cons_zero, List.set_cons_succ])
    refine wpAnyH_take (i := 54) (oi := { dst := (some 87), op := (Op.move (Operand.tmp 86)), type := 4, pos := "law.go:145", after := #[{ on := 53, ground := Ground.data }, { on := 45, ground := Ground.chain }], guard := none }) (v := ?_) rfl (by kernel_rfl) (by kernel_rfl) (by kernel_rfl) (fun _ _ _ h => h) (Or.inl ⟨by rfl, ?_⟩) (by assumption) ?_
    rotate_left
    · intro w hSw
      (try dsimp only at hSw)
      go_simp
      with_reducible rfl
    (try simp only [Act.put, List.setIfInBounds_toArray, List.set_cons_zero, List.set_cons_succ])
    refine wpAnyH_ready (rs := [55]) (by kernel_rfl) (by simp) ?_
    refine AllReadyH.cons (o := { dst := (some 88), op := (Op.call { callee := (Callee.value (Operand.func 13)), args := #[], argTypes := #[] }), type := 4, pos := "law.go:145", after := #[{ on := 54, ground := Ground.chain }, { on := 54, ground := Ground.guard }], guard := (some (54, true)) }) rfl (fun K hK => ?_) AllReadyH.nil
    go_simp
    refine (live_any _).mono ?_
    rintro e w7 ⟨rfl, fr7⟩
    have b7 : Below w6.heap.size w6 w7 := fr7.below (fun _ h => h.elim)
    refine hK.out _ _ ?_ (fun hHeld => ?_)
    · exact ⟨⟨b6.trans (b7.mono b6.size), hS _ (b6.trans (b7.mono b6.size))⟩, b7, by have := conv_str (q6.later b7); simpa using this⟩
    clear hK K
    (try simp only [Act.put, List.setIfInBounds_toArray, List.set_cons_zero, List.set_cons_succ])
    refine wpAnyH_take (i := 56) (oi := { dst := (some 89), op := (Op.pick (Operand.tmp 87) (Operand.tmp 88) (Operand.const (Value.bool false))), type := 4, pos := "law.go:145", after := #[{ on := 54, ground := Ground.data }, { on := 55, ground := Ground.data }], guard := none }) (v := ?_) rfl (by kernel_rfl) (by kernel_rfl) (by kernel_rfl) (fun _ _ _ h => h) (Or.inl ⟨by rfl, ?_⟩) (by assumption) ?_
    rotate_left
    · intro w hSw
      (try dsimp only at hSw)
      go_simp
      with_reducible rfl
    (try simp only [Act.put, List.setIfInBounds_toArray, List.set_cons_zero, List.set_cons_succ])
    refine wpAnyH_take (i := 57) (oi := { dst := (some 6), op := (Op.assign (Operand.tmp 89)), type := 4, pos := "law.go:145", after := #[{ on := 56, ground := Ground.data }, { on := 55, ground := Ground.chain }, { on := 0, ground := Ground.phase }, { on := 1, ground := Ground.phase }, { on := 2, ground := Ground.phase }, { on := 3, ground := Ground.phase }, { on := 4, ground := Ground.phase }, { on := 5, ground := Ground.phase }, { on := 6, ground := Ground.phase }, { on := 7, ground := Ground.phase }, { on := 8, ground := Ground.phase }, { on := 9, ground := Ground.phase }, { on := 10, ground := Ground.phase }, { on := 11, ground := Ground.phase }, { on := 12, ground := Ground.phase }, { on := 13, ground := Ground.phase }, { on := 14, ground := Ground.phase }, { on := 15, ground := Ground.phase }, { on := 16, ground := Ground.phase }, { on := 17, ground := Ground.phase }, { on := 18, ground := Ground.phase }, { on := 19, ground := Ground.phase }, { on := 20, ground := Ground.phase }, { on := 21, ground := Ground.phase }, { on := 22, ground := Ground.phase }, { on := 23, ground := Ground.phase }, { on := 24, ground := Ground.phase }, { on := 25, ground := Ground.phase }, { on := 26, ground := Ground.phase }, { on := 27, ground := Ground.phase }, { on := 28, ground := Ground.phase }, { on := 29, ground := Ground.phase }, { on := 30, ground := Ground.phase }, { on := 31, ground := Ground.phase }, { on := 32, ground := Ground.phase }, { on := 33, ground := Ground.phase }, { on := 34, ground := Ground.phase }, { on := 35, ground := Ground.phase }, { on := 36, ground := Ground.phase }, { on := 37, ground := Ground.phase }, { on := 38, ground := Ground.phase }, { on := 39, ground := Ground.phase }, { on := 40, ground := Ground.phase }, { on := 41, ground := Ground.phase }, { on := 42, ground := Ground.phase }, { on := 43, ground := Ground.phase }, { on := 44, ground := Ground.phase }, { on := 45, ground := Ground.phase }, { on := 46, ground := Ground.phase }, { on := 47, ground := Ground.phase }, { on := 48, ground := Ground.phase }, { on := 49, ground := Ground.phase }, { on := 50, ground := Ground.phase }, { on := 51, ground := Ground.phase }, { on := 52, ground := Ground.phase }, { on := 53, ground := Ground.phase }, { on := 54, ground := Ground.phase }, { on := 55, ground := Ground.phase }, { on := 56, ground := Ground.phase }], guard := none }) (v := ?_) rfl (by kernel_rfl) (by kernel_rfl) (by kernel_rfl) (fun _ _ _ h => h) (Or.inl ⟨by rfl, ?_⟩) (by assumption) ?_
    rotate_left
    · intro w hSw
      (try dsimp only at hSw)
      go_simp
      with_reducible rfl
    (try simp only [Act.put, List.setIfInBounds_toArray, List.set_cons_zero, List.set_cons_succ])
    refine wpAnyH_done (by kernel_rfl) ?_ _
    go_wp2
    go_ret
    exact ⟨rfl, bl5.trans ((b6.trans (b7.mono b6.size)).mono bl5.size)⟩
  · go_simp
    refine hK.out _ _ ?_ (fun hHeld => ?_)
    · exact ⟨((Below.refl _ w4).drew).alloc (Nat.le_refl _) _, hS _ (((Below.refl _ w4).drew).alloc (Nat.le_refl _) _)⟩
    clear hK K
    (try simp only [Act.put, List.setIfInBounds_toArray, List.set_cons_zero, List.set_cons_succ])
    refine wpAnyH_ready (rs := [42]) (by kernel_rfl) (by simp) ?_
    refine AllReadyH.cons (o := { dst := (some 75), op := (Op.call { callee := (Callee.value (Operand.func 34)), args := #[(Operand.const (Value.slice none 0 0)), (Operand.tmp 74)], argTypes := #[22, 22] }), type := 22, pos := "law.go:145", after := #[{ on := 41, ground := Ground.data }, { on := 40, ground := Ground.chain }, { on := 40, ground := Ground.guard }], guard := (some (40, true)) }) rfl (fun K hK => ?_) AllReadyH.nil
    go_simp
    refine (Put8_any (Ob.nil _) (q0.later (((Below.refl _ w4).drew).alloc (Nat.le_refl _) _)) (by simp; omega)).mono ?_
    rintro e w5 ⟨x5, rfl, o5, nx5, fr5⟩
    have bal : Below w4.heap.size w4 (w4.alloc (.cells #[.slice A0 l0.length c0] 22)).drew := ((Below.refl _ w4).alloc (Nat.le_refl _) _).drew
    have lo5 := (Lo.nil w4.heap.size).next nx5 bal.size
    have b5 : Below w4.heap.size w4 w5 := bal.trans (fr5.belowB (Lo.nil _) bal.size)
    have lo5' : ∀ b, x5.ownBlock = some b → (w4.alloc (.cells #[.slice A0 l0.length c0] 22)).drew.heap.size ≤ b := (Lo.nil _).next nx5 (Nat.le_refl _)
    have r5 : RowsB w5 (fun b => x5.ownBlock = some b) (.slice (some ⟨w4.heap.size, 0, none⟩) 1 1) [l0] := by
      have r0 := RowsB.one (w := w4.drew) (S := fun b => False) ((q0.later ((Below.refl _ _).drew)).mono_l rfl (fun _ h => h.elim)) (fun _ h => h.elim)
      have fr5' : Fr (fun b => (Value.slice none 0 0).ownBlock = some b) (w4.drew.alloc (.cells #[.slice A0 l0.length c0] 22)) w5 := fr5
      exact r0.grow fr5' (fun b hb => by cases hb) lo5'
    refine hK.out _ _ ?_ (fun hHeld => ?_)
    · exact ⟨b5, hS _ b5⟩
    clear hK K
    (try simp only [Act.put, List.setIfInBounds_toArray, List.set_cons_zero, List.set_cons_succ])
    refine wpAnyH_ready (rs := [45]) (by kernel_rfl) (by simp) ?_
    refine AllReadyH.cons (o := { dst := (some 78), op := (Op.call { callee := (Callee.value (Operand.func 36)), args := #[(Operand.tmp 75), (Operand.tmp 77)], argTypes := #[22, 59] }), type := 22, pos := "law.go:145", after := #[{ on := 42, ground := Ground.data }, { on := 44, ground := Ground.data }, { on := 42, ground := Ground.chain }, { on := 40, ground := Ground.guard }], guard := (some (40, true)) }) rfl (fun K hK => ?_) AllReadyH.nil
    go_simp
    refine (PutBytes_any o5 r5 (fun b hb => hb) (by simp; omega)).mono ?_
    rintro e w6 ⟨x6, rfl, o6, nx6, fr6⟩
    have b6 : Below w4.heap.size w4 w6 := b5.trans (fr6.belowB lo5 b5.size)
    have q6 := o6.old
    refine hK.out _ _ ?_ (fun hHeld => ?_)
    · exact ⟨b6, hS _ b6⟩
    clear hK K
    (try simp only [Act.put, List.setIfInBounds_toArray, List.set_cons_zero, List.set_cons_succ])
    refine wpAnyH_more (S' := (fun W => (Below w4.heap.size w4 W ∧ (convert 22 9 (.slice A3 l0.length c3)).run Try.prog W = .ok (.string (strOfNums l0)) W ∧ (convert 22 9 (.slice A4 l0.length c4)).run Try.prog W = .ok (.string (strOfNums l0)) W ∧ (convert 22 9 (.slice A0 l0.length c0)).run Try.prog W = .ok (.string (strOfNums l0)) W) ∧ Below w6.heap.size w6 W ∧ (convert 22 9 x6).run Try.prog W = .ok (.string (strOfNums (l0 ++ l0))) W)) (fun _ h => h.1) ?_
    have hHeld2 := And.intro hHeld (And.intro (Below.refl w6.heap.size w6) (show (convert 22 9 x6).run Try.prog w6 = .ok (.string (strOfNums (l0 ++ l0))) w6 from by have := conv_str q6; simpa using this))
    refine wpAnyH_take (i := 46) (oi := { dst := (some 79), op := (Op.convert 22 9 (Operand.tmp 78)), type := 9, pos := "law.go:145", after := #[{ on := 45, ground := Ground.data }, { on := 40, ground := Ground.guard }], guard := (some (40, true)) }) (v := ?_) rfl (by kernel_rfl) (by kernel_rfl) (by kernel_rfl) (fun _ _ _ h => h) (Or.inl ⟨by rfl, ?_⟩) (by assumption) ?_
    rotate_left
    · intro w hSw
      (try dsimp only at hSw)
      go_simp
      with_reducible rfl
    (try simp only [Act.put, List.setIfInBounds_toArray, List.set_cons_zero, List.set_cons_succ])
    refine wpAnyH_take (i := 52) (oi := { dst := (some 85), op := (Op.binOp BinOp.eql 9 (Operand.tmp 79) (Operand.tmp 84) 9), type := 4, pos := "law.go:145", after := #[{ on := 46, ground := Ground.data }, { on := 51, ground := Ground.data }, { on := 40, ground := Ground.guard }], guard := (some (40, true)) }) (v := ?_) rfl (by kernel_rfl) (by kernel_rfl) (by kernel_rfl) (fun _ _ _ h => h) (Or.inl ⟨by rfl, ?_⟩) (by assumption) ?_
    rotate_left
    · intro w hSw
      (try dsimp only at hSw)
      go_simp
      with_reducible rfl
    (try simp only [Act.put, List.setIfInBounds_toArray, List.set_cons_zero, List.set_cons_succ])
    refine wpAnyH_take (i := 53) (oi := { dst := (some 86), op := (Op.pick (Operand.tmp 73) (Operand.tmp 85) (Operand.const (Value.bool false))), type := 4, pos := "law.go:145", after := #[{ on := 40, ground := Ground.data }, { on := 52, ground := Ground.data }], guard := none }) (v := ?_) rfl (by kernel_rfl) (by kernel_rfl) (by kernel_rfl) (fun _ _ _ h => h) (Or.inl ⟨by rfl, ?_⟩) (by assumption) ?_
    rotate_left
    · intro w hSw
      (try dsimp only at hSw)
      go_simp
      with_reducible rfl
    (try simp only [Act.put, List.setIfInBounds_toArray, List.set_cons_zero, List.set_cons_succ])
    refine wpAnyH_take (i := 54) (oi := { dst := (some 87), op := (Op.move (Operand.tmp 86)), type := 4, pos := "law.go:145", after := #[{ on := 53, ground := Ground.data }, { on := 45, ground := Ground.chain }], guard := none }) (v := ?_) rfl (by kernel_rfl) (by kernel_rfl) (by kernel_rfl) (fun _ _ _ h => h) (Or.inl ⟨by rfl, ?_⟩) (by assumption) ?_
    rotate_left
    · intro w hSw
      (try dsimp only at hSw)
      go_simp
      with_reducible rfl
    (try simp only [Act.put, List.setIfInBounds_toArray, List.set_cons_zero, List.set_cons_succ])
    refine wpAnyH_ready (rs := [55]) (by kernel_rfl) (by simp) ?_
    refine AllReadyH.cons (o := { dst := (some 88), op := (Op.call { callee := (Callee.value (Operand.func 13)), args := #[], argTypes := #[] }), type := 4, pos := "law.go:145", after := #[{ on := 54, ground := Ground.chain }, { on := 54, ground := Ground.guard }], guard := (some (54, true)) }) rfl (fun K hK => ?_) AllReadyH.nil
    go_simp
    refine (live_any _).mono ?_
    rintro e w7 ⟨rfl, fr7⟩
    have b7 : Below w6.heap.size w6 w7 := fr7.below (fun _ h => h.elim)
    refine hK.out _ _ ?_ (fun hHeld => ?_)
    · exact ⟨⟨b6.trans (b7.mono b6.size), hS _ (b6.trans (b7.mono b6.size))⟩, b7, by have := conv_str (q6.later b7); simpa using this⟩
    clear hK K
    (try simp only [Act.put, List.setIfInBounds_toArray, List.set_cons_zero, List.set_cons_succ])
    refine wpAnyH_take (i := 56) (oi := { dst := (some 89), op := (Op.pick (Operand.tmp 87) (Operand.tmp 88) (Operand.const (Value.bool false))), type := 4, pos := "law.go:145", after := #[{ on := 54, ground := Ground.data }, { on := 55, ground := Ground.data }], guard := none }) (v := ?_) rfl (by kernel_rfl) (by kernel_rfl) (by kernel_rfl) (fun _ _ _ h => h) (Or.inl ⟨by rfl, ?_⟩) (by assumption) ?_
    rotate_left
    · intro w hSw
      (try dsimp only at hSw)
      go_simp
      with_reducible rfl
    (try simp only [Act.put, List.setIfInBounds_toArray, List.set_cons_zero, List.set_cons_succ])
    refine wpAnyH_take (i := 57) (oi := { dst := (some 6), op := (Op.assign (Operand.tmp 89)), type := 4, pos := "law.go:145", after := #[{ on := 56, ground := Ground.data }, { on := 55, ground := Ground.chain }, { on := 0, ground := Ground.phase }, { on := 1, ground := Ground.phase }, { on := 2, ground := Ground.phase }, { on := 3, ground := Ground.phase }, { on := 4, ground := Ground.phase }, { on := 5, ground := Ground.phase }, { on := 6, ground := Ground.phase }, { on := 7, ground := Ground.phase }, { on := 8, ground := Ground.phase }, { on := 9, ground := Ground.phase }, { on := 10, ground := Ground.phase }, { on := 11, ground := Ground.phase }, { on := 12, ground := Ground.phase }, { on := 13, ground := Ground.phase }, { on := 14, ground := Ground.phase }, { on := 15, ground := Ground.phase }, { on := 16, ground := Ground.phase }, { on := 17, ground := Ground.phase }, { on := 18, ground := Ground.phase }, { on := 19, ground := Ground.phase }, { on := 20, ground := Ground.phase }, { on := 21, ground := Ground.phase }, { on := 22, ground := Ground.phase }, { on := 23, ground := Ground.phase }, { on := 24, ground := Ground.phase }, { on := 25, ground := Ground.phase }, { on := 26, ground := Ground.phase }, { on := 27, ground := Ground.phase }, { on := 28, ground := Ground.phase }, { on := 29, ground := Ground.phase }, { on := 30, ground := Ground.phase }, { on := 31, ground := Ground.phase }, { on := 32, ground := Ground.phase }, { on := 33, ground := Ground.phase }, { on := 34, ground := Ground.phase }, { on := 35, ground := Ground.phase }, { on := 36, ground := Ground.phase }, { on := 37, ground := Ground.phase }, { on := 38, ground := Ground.phase }, { on := 39, ground := Ground.phase }, { on := 40, ground := Ground.phase }, { on := 41, ground := Ground.phase }, { on := 42, ground := Ground.phase }, { on := 43, ground := Ground.phase }, { on := 44, ground := Ground.phase }, { on := 45, ground := Ground.phase }, { on := 46, ground := Ground.phase }, { on := 47, ground := Ground.phase }, { on := 48, ground := Ground.phase }, { on := 49, ground := Ground.phase }, { on := 50, ground := Ground.phase }, { on := 51, ground := Ground.phase }, { on := 52, ground := Ground.phase }, { on := 53, ground := Ground.phase }, { on := 54, ground := Ground.phase }, { on := 55, ground := Ground.phase }, { on := 56, ground := Ground.phase }], guard := none }) (v := ?_) rfl (by kernel_rfl) (by kernel_rfl) (by kernel_rfl) (fun _ _ _ h => h) (Or.inl ⟨by rfl, ?_⟩) (by assumption) ?_
    rotate_left
    · intro w hSw
      (try dsimp only at hSw)
      go_simp
      with_reducible rfl
    (try simp only [Act.put, List.setIfInBounds_toArray, List.set_cons_zero, List.set_cons_succ])
    refine wpAnyH_done (by kernel_rfl) ?_ _
    go_wp2
    go_ret
    exact ⟨rfl, bl5.trans ((b6.trans (b7.mono b6.size)).mono bl5.size)⟩

set_option maxHeartbeats 800000 in
theorem OctetLengths_walk (v0 : Value) (l0 : List Int) (v1 : Value) (l1 : List Int) (v2 : Value) (l2 : List Int) {w : World}
    (h0 : Row w (fun _ => False) 1 v0 l0.length (nums .u8 l0)) (f0 : ∀ x ∈ l0, (Lit.int .u8 x).wf = true) (y0 : l0.length * 1 ≤ 140737488351232)
    (h1 : Row w (fun _ => False) 1 v1 l1.length (nums .u16 l1)) (f1 : ∀ x ∈ l1, (Lit.int .u16 x).wf = true) (y1 : l1.length * 2 ≤ 140737488351232)
    (h2 : Row w (fun _ => False) 1 v2 l2.length (nums .u32 l2)) (f2 : ∀ x ∈ l2, (Lit.int .u32 x).wf = true) (y2 : l2.length * 4 ≤ 140737488351232) (w' : World) (hw : w' = w) :
    Calls Try.prog 8 #[v0, v1, v2] w' fun e w' => e = .returned (.bool true) ∧ Below w.heap.size w w' := by
  subst hw
  by_cases c : l0.length ≤ 20000 ∧ l1.length ≤ 60 ∧ l2.length ≤ 60
  · exact OctetLengths_main (bs_of_row h0 f0) h1 h2 (isN_u16 f1) (isN_u32 f2) c.1 c.2.1 c.2.2
  · obtain ⟨A0, c0, rfl, -⟩ := h0.head
    obtain ⟨A1, c1, rfl, -⟩ := h1.head
    obtain ⟨A2, c2, rfl, -⟩ := h2.head
    clear h0 h1 h2 f0 f1 f2
    by_cases d0 : 20000 < l0.length
    · have e0 : decide (20000 < l0.length) = true := by simp; omega
      go_enter Try.func8, Try.ntmps8
      go_wp2_with (go_at_call 13; refine (live_any _).mono ?_; rintro e w1 ⟨rfl, hf⟩)
      go_ret
      exact ⟨rfl, hf.below (fun _ h => h.elim)⟩
    · have e0 : decide (20000 < l0.length) = false := by simp; omega
      by_cases d1 : 60 < l1.length
      · have e1 : decide (60 < l1.length) = true := by simp; omega
        go_enter Try.func8, Try.ntmps8
        go_wp2_with (go_at_call 13; refine (live_any _).mono ?_; rintro e w1 ⟨rfl, hf⟩)
        go_ret
        exact ⟨rfl, hf.below (fun _ h => h.elim)⟩
      · have e1 : decide (60 < l1.length) = false := by simp; omega
        have e2 : decide (60 < l2.length) = true := by simp; omega
        go_enter Try.func8, Try.ntmps8
        go_wp2_with (go_at_call 13; refine (live_any _).mono ?_; rintro e w1 ⟨rfl, hf⟩)
        go_ret
        exact ⟨rfl, hf.below (fun _ h => h.elim)⟩
end Go.Proofs.Ytgfhhnmhpncnlaa
