/-
  Best. Condition: addresses are sixteen bytes, lengths a machine's numbers.
-/
import Derived.Test.YtnljjlaececnkaaGreatDoorZ
namespace Go.Proofs.YtnljjlaececnkaaGreatDoor
open Go.RowKit
set_option linter.unusedVariables false
set_option linter.unusedSimpArgs false
def ppCs (p : Pr) : List Value := pCs p.d.a p.d.n ++ pCs p.s.a p.s.n
def prs (l : List Pr) : List Value := (l.map ppCs).flatten
theorem ppCs_len {p : Pr} (h : p.fit) : (ppCs p).length = 34 := by simp [ppCs, pCs_len h.1.1, pCs_len h.2.1]
theorem prs_at : ∀ {l : List Pr}, (∀ p ∈ l, p.fit) → ∀ {i : Nat} {p : Pr}, l[i]? = some p → ∀ {j : Nat} {u : Value}, (ppCs p)[j]? = some u → (prs l)[i * 34 + j]? = some u
  | [], _, i, p, h, _, _, _ => by simp at h
  | q :: l, hf, 0, p, h, j, u, hj => by
    simp at h; subst h
    have hl := (List.getElem?_eq_some_iff.1 hj).1
    simp only [prs, List.map_cons, List.flatten_cons, Nat.zero_mul, Nat.zero_add]
    rw [List.getElem?_append_left hl]; exact hj
  | q :: l, hf, i + 1, p, h, j, u, hj => by
    have hq := ppCs_len (hf q (by simp))
    have := prs_at (l := l) (fun x hx => hf x (by simp [hx])) (i := i) (p := p) (by simpa using h) hj
    simp only [prs, List.map_cons, List.flatten_cons] at this ⊢
    rw [List.getElem?_append_right (by omega), hq, show (i + 1) * 34 + j - 34 = i * 34 + j by omega]; exact this
theorem prs_len {l : List Pr} (hf : ∀ p ∈ l, p.fit) : (prs l).length = l.length * 34 := by
  induction l with
  | nil => rfl
  | cons p l ih =>
    have h1 := ppCs_len (hf p (by simp))
    have h2 := ih (fun x hx => hf x (by simp [hx]))
    unfold prs at h2 ⊢
    rw [List.map_cons, List.flatten_cons, List.length_append, h1, h2, List.length_cons]; omega
theorem ppCs_d {p : Pr} (h : p.fit) : (ppCs p)[16]? = some (.int .i64 p.d.n) := by
  unfold ppCs; rw [List.getElem?_append_left (by rw [pCs_len h.1.1]; decide)]; exact pCs_get h.1.1
theorem ppCs_s {p : Pr} (h : p.fit) : (ppCs p)[33]? = some (.int .i64 p.s.n) := by
  unfold ppCs; rw [List.getElem?_append_right (by rw [pCs_len h.1.1]; decide), pCs_len h.1.1]; exact pCs_get h.2.1
theorem ppCs_size {p : Pr} (h : p.fit) : (ppCs p).toArray.size = 34 := by simp [ppCs_len h]
/-- A row of pairs. -/
abbrev Prs (w : World) (v : Value) (l : List Pr) : Prop := Row w (fun b => w.heap.size ≤ b) 34 v l.length (prs l)
set_option maxRecDepth 100000 in
set_option maxHeartbeats 1600000 in
theorem best_any {w : World} {src dst : List Int} (hs : isA src) (hd : isA dst) {l : List Pr} (hf : ∀ p ∈ l, p.fit) {v : Value} (hr : Prs w v l) : Calls Tryz.prog 36 #[vA src, vA dst, v] w fun e w' => (∃ (k : Nat) (ok : Bool), e = .returned (.tuple #[.int .i64 k, .bool ok]) ∧ IsBest l src dst l.length k ok) ∧ Below w.heap.size w w' := by
  obtain ⟨h0, A, c, rfl, q1, q2, q3, q5⟩ := id hr
  replace hr := Lib.hid hr
  clear q5 h0
  have Hs := Lib.hid hs
  have Hd := Lib.hid hd
  have Hf := Lib.hid hf
  clear hs hd hf
  have B0 := Bx.start2 w (oA src) (oA dst)
  unfold vA
  go_enter Tryz.func36, Tryz.ntmps36
  go_wp2
  go_loopw [8, 9, 14] (fun x8 x9 x14 wr => ∃ (i k : Nat) (ok : Bool), x8 = .int .i64 k ∧ x9 = .bool ok ∧ x14 = .int .i64 i ∧ i ≤ l.length ∧ IsBest l src dst i k ok ∧ Bx w w.heap.size [(w.heap.size, oA src), (w.heap.size + 1, oA dst)] wr) (fun x8 x9 x14 wr => l.length - (intOf x14).toNat)
  case atStart => exact ⟨0, 0, false, rfl, rfl, rfl, by omega, IsBest.start l src dst, B0⟩
  case round =>
    obtain ⟨i, k, ok, rfl, rfl, rfl, hi, hb, bx⟩ := hrel
    replace hb := Lib.hid hb
    by_cases hlt : i < l.length
    · obtain ⟨p, hget⟩ := get_some hlt
      have hp := Lib.hid (Hf.out p (List.mem_of_getElem? hget))
      obtain ⟨b, o, rfl, -, -, -⟩ := hr.out.at_ (by omega)
      have hrr := hr.out.later bx.1
      have hra : wr.rangeAt b (o + i * 34) (ppCs p) := fun j u hj => by rw [Nat.add_assoc]; exact hrr.cells (prs_at Hf.out hget hj)
      replace hget := Lib.hid hget
      obtain ⟨m, hm⟩ : ∃ m, mat p src dst = m := ⟨_, rfl⟩
      have hmat := fun {W : World} => mat_any (w := W) hp.out Hs.out Hd.out
      rw [hm] at hmat
      have bx2 := bx.alloc (oPP p)
      replace hm := Lib.hid hm
      have hlt2 : decide ((i : Int) < l.length) = true := decide_eq_true (by omega)
      have hi2 : (i : Int) + 1 ≤ 9223372036854775807 := by have := q2; unfold maxLen at this; omega
      cases m
      · go_wp2_with (first
          | (refine wpList_load_mid rfl 57 (.tmp 17) rfl b (o + i * 34) rfl (ppCs p) _ hra Tryz.underlying57 rfl (by rw [ppCs_len hp.out]; exact size57) ?_)
          | (refine wpList_store_new rfl 57 (.tmp 11) (.tmp 18) rfl rfl rfl (info57 hp.out) (by rw [ppCs_size hp.out] <;> rfl) (pp_one p) ?_)
          | (refine wpList_load_mid rfl 57 (.tmp 11) rfl wr.heap.size 0 rfl _ _ (row_load bx2.2.1.1) Tryz.underlying57 rfl (info57 hp.out) ?_)
          | (refine wpList_load_mid rfl 42 (.tmp 3) rfl w.heap.size 0 rfl _ _ (row_load bx2.2.1.2.1) Tryz.underlying42 rfl (info42 Hs.out) ?_)
          | (refine wpList_load_mid rfl 42 (.tmp 4) rfl (w.heap.size + 1) 0 rfl _ _ (row_load bx2.2.1.2.2.1) Tryz.underlying42 rfl (info42 Hd.out) ?_)
          | (go_at_call 37; refine hmat.mono ?_; clear hmat; rintro e w5 ⟨rfl, bel5⟩; have bx5 := bx2.go bel5))
        refine ⟨⟨i + 1, k, ok, rfl, rfl, by congr 1, by omega, hb.out.skip hget.out hm.out, bx5.1, ⟨bx5.2.1.2.1, bx5.2.1.2.2.1, trivial⟩, bx5.2.2⟩, by simp [intOf]; omega⟩
      · cases ok
        · go_wp2_with (first
            | (refine wpList_load_mid rfl 57 (.tmp 17) rfl b (o + i * 34) rfl (ppCs p) _ hra Tryz.underlying57 rfl (by rw [ppCs_len hp.out]; exact size57) ?_)
            | (refine wpList_store_new rfl 57 (.tmp 11) (.tmp 18) rfl rfl rfl (info57 hp.out) (by rw [ppCs_size hp.out] <;> rfl) (pp_one p) ?_)
            | (refine wpList_load_mid rfl 57 (.tmp 11) rfl wr.heap.size 0 rfl _ _ (row_load bx2.2.1.1) Tryz.underlying57 rfl (info57 hp.out) ?_)
            | (refine wpList_load_mid rfl 42 (.tmp 3) rfl w.heap.size 0 rfl _ _ (row_load bx2.2.1.2.1) Tryz.underlying42 rfl (info42 Hs.out) ?_)
            | (refine wpList_load_mid rfl 42 (.tmp 4) rfl (w.heap.size + 1) 0 rfl _ _ (row_load bx2.2.1.2.2.1) Tryz.underlying42 rfl (info42 Hd.out) ?_)
            | (go_at_call 37; refine hmat.mono ?_; clear hmat; rintro e w5 ⟨rfl, bel5⟩; have bx5 := bx2.go bel5))
          go_wp2_with fail
          refine wp_region_held_drew (S := (Bx w w.heap.size [(wr.heap.size, oPP p), (w.heap.size, oA src), (w.heap.size + 1, oA dst)])) (by kernel_rfl) (Bx.drew bx5) (fun hHeld => ?_)
          refine wpAnyH_take (i := 0) (oi := { dst := (some 24), op := (Op.move (Operand.tmp 9)), type := 4, pos := "addr.go:306", after := #[], guard := none }) (v := ?_) rfl (by kernel_rfl) (by kernel_rfl) (by kernel_rfl) (fun _ _ _ h => h) (Or.inl ⟨by rfl, ?_⟩) (by assumption) ?_
          rotate_left
          · intro w hSw
            (try dsimp only at hSw)
            go_simp
            with_reducible rfl
          (try simp only [Act.put, List.setIfInBounds_toArray, List.set_cons_zero, List.set_cons_succ])
          refine wpAnyH_take (i := 1) (oi := { dst := (some 25), op := (Op.unOp UnOp.not 4 (Operand.tmp 24)), type := 4, pos := "addr.go:306", after := #[{ on := 0, ground := Ground.data }], guard := none }) (v := ?_) rfl (by kernel_rfl) (by kernel_rfl) (by kernel_rfl) (fun _ _ _ h => h) (Or.inl ⟨by rfl, ?_⟩) (by assumption) ?_
          rotate_left
          · intro w hSw
            (try dsimp only at hSw)
            go_simp
            with_reducible rfl
          (try simp only [Act.put, List.setIfInBounds_toArray, List.set_cons_zero, List.set_cons_succ])
          refine wpAnyH_take (i := 2) (oi := { dst := (some 26), op := (Op.move (Operand.tmp 25)), type := 4, pos := "addr.go:306", after := #[{ on := 1, ground := Ground.data }], guard := none }) (v := ?_) rfl (by kernel_rfl) (by kernel_rfl) (by kernel_rfl) (fun _ _ _ h => h) (Or.inl ⟨by rfl, ?_⟩) (by assumption) ?_
          rotate_left
          · intro w hSw
            (try dsimp only at hSw)
            go_simp
            with_reducible rfl
          (try simp only [Act.put, List.setIfInBounds_toArray, List.set_cons_zero, List.set_cons_succ])
          refine wpAnyH_take (i := 3) (oi := { dst := (some 27), op := (Op.fieldAddr 57 (Operand.tmp 11) 0), type := 0, pos := "addr.go:306", after := #[{ on := 2, ground := Ground.guard }], guard := (some (2, false)) }) (v := undef) rfl (by kernel_rfl) (by kernel_rfl) (by kernel_rfl) (fun _ _ _ h => h) (Or.inr ⟨by rfl, rfl⟩) (by assumption) ?_
          (try simp only [Act.put, List.setIfInBounds_toArray, List.set_cons_zero, List.set_cons_succ])
          refine wpAnyH_take (i := 4) (oi := { dst := (some 28), op := (Op.fieldAddr 55 (Operand.tmp 27) 1), type := 0, pos := "addr.go:306", after := #[{ on := 3, ground := Ground.data }, { on := 2, ground := Ground.guard }], guard := (some (2, false)) }) (v := undef) rfl (by kernel_rfl) (by kernel_rfl) (by kernel_rfl) (fun _ _ _ h => h) (Or.inr ⟨by rfl, rfl⟩) (by assumption) ?_
          (try simp only [Act.put, List.setIfInBounds_toArray, List.set_cons_zero, List.set_cons_succ])
          refine wpAnyH_take (i := 5) (oi := { dst := (some 29), op := (Op.load 3 (Operand.tmp 28)), type := 3, pos := "addr.go:306", after := #[{ on := 4, ground := Ground.data }, { on := 2, ground := Ground.guard }], guard := (some (2, false)) }) (v := undef) rfl (by kernel_rfl) (by kernel_rfl) (by kernel_rfl) (fun _ _ _ h => h) (Or.inr ⟨by rfl, rfl⟩) (by assumption) ?_
          (try simp only [Act.put, List.setIfInBounds_toArray, List.set_cons_zero, List.set_cons_succ])
          refine wpAnyH_take (i := 6) (oi := { dst := (some 30), op := (Op.move (Operand.tmp 2)), type := 50, pos := "addr.go:306", after := #[{ on := 2, ground := Ground.guard }], guard := (some (2, false)) }) (v := undef) rfl (by kernel_rfl) (by kernel_rfl) (by kernel_rfl) (fun _ _ _ h => h) (Or.inr ⟨by rfl, rfl⟩) (by assumption) ?_
          (try simp only [Act.put, List.setIfInBounds_toArray, List.set_cons_zero, List.set_cons_succ])
          refine wpAnyH_take (i := 7) (oi := { dst := (some 31), op := (Op.move (Operand.tmp 8)), type := 3, pos := "addr.go:306", after := #[{ on := 2, ground := Ground.guard }], guard := (some (2, false)) }) (v := undef) rfl (by kernel_rfl) (by kernel_rfl) (by kernel_rfl) (fun _ _ _ h => h) (Or.inr ⟨by rfl, rfl⟩) (by assumption) ?_
          (try simp only [Act.put, List.setIfInBounds_toArray, List.set_cons_zero, List.set_cons_succ])
          refine wpAnyH_take (i := 8) (oi := { dst := (some 32), op := (Op.indexAddr 50 (Operand.tmp 30) (Operand.tmp 31)), type := 0, pos := "addr.go:306", after := #[{ on := 6, ground := Ground.data }, { on := 7, ground := Ground.data }, { on := 2, ground := Ground.guard }], guard := (some (2, false)) }) (v := undef) rfl (by kernel_rfl) (by kernel_rfl) (by kernel_rfl) (fun _ _ _ h => h) (Or.inr ⟨by rfl, rfl⟩) (by assumption) ?_
          (try simp only [Act.put, List.setIfInBounds_toArray, List.set_cons_zero, List.set_cons_succ])
          refine wpAnyH_take (i := 9) (oi := { dst := (some 33), op := (Op.fieldAddr 57 (Operand.tmp 32) 0), type := 0, pos := "addr.go:306", after := #[{ on := 8, ground := Ground.data }, { on := 2, ground := Ground.guard }], guard := (some (2, false)) }) (v := undef) rfl (by kernel_rfl) (by kernel_rfl) (by kernel_rfl) (fun _ _ _ h => h) (Or.inr ⟨by rfl, rfl⟩) (by assumption) ?_
          (try simp only [Act.put, List.setIfInBounds_toArray, List.set_cons_zero, List.set_cons_succ])
          refine wpAnyH_take (i := 10) (oi := { dst := (some 34), op := (Op.fieldAddr 55 (Operand.tmp 33) 1), type := 0, pos := "addr.go:306", after := #[{ on := 9, ground := Ground.data }, { on := 2, ground := Ground.guard }], guard := (some (2, false)) }) (v := undef) rfl (by kernel_rfl) (by kernel_rfl) (by kernel_rfl) (fun _ _ _ h => h) (Or.inr ⟨by rfl, rfl⟩) (by assumption) ?_
          (try simp only [Act.put, List.setIfInBounds_toArray, List.set_cons_zero, List.set_cons_succ])
          refine wpAnyH_take (i := 11) (oi := { dst := (some 35), op := (Op.load 3 (Operand.tmp 34)), type := 3, pos := "addr.go:306", after := #[{ on := 10, ground := Ground.data }, { on := 2, ground := Ground.guard }], guard := (some (2, false)) }) (v := undef) rfl (by kernel_rfl) (by kernel_rfl) (by kernel_rfl) (fun _ _ _ h => h) (Or.inr ⟨by rfl, rfl⟩) (by assumption) ?_
          (try simp only [Act.put, List.setIfInBounds_toArray, List.set_cons_zero, List.set_cons_succ])
          refine wpAnyH_take (i := 12) (oi := { dst := (some 36), op := (Op.call { callee := (Callee.value (Operand.func 110)), args := #[(Operand.tmp 29), (Operand.tmp 35)], argTypes := #[3, 3] }), type := 3, pos := "addr.go:306", after := #[{ on := 5, ground := Ground.data }, { on := 11, ground := Ground.data }, { on := 2, ground := Ground.chain }, { on := 2, ground := Ground.guard }], guard := (some (2, false)) }) (v := undef) rfl (by kernel_rfl) (by kernel_rfl) (by kernel_rfl) (fun _ _ _ h => h) (Or.inr ⟨by rfl, rfl⟩) (by assumption) ?_
          (try simp only [Act.put, List.setIfInBounds_toArray, List.set_cons_zero, List.set_cons_succ])
          refine wpAnyH_take (i := 13) (oi := { dst := (some 37), op := (Op.fieldAddr 57 (Operand.tmp 11) 1), type := 0, pos := "addr.go:306", after := #[{ on := 2, ground := Ground.guard }], guard := (some (2, false)) }) (v := undef) rfl (by kernel_rfl) (by kernel_rfl) (by kernel_rfl) (fun _ _ _ h => h) (Or.inr ⟨by rfl, rfl⟩) (by assumption) ?_
          (try simp only [Act.put, List.setIfInBounds_toArray, List.set_cons_zero, List.set_cons_succ])
          refine wpAnyH_take (i := 14) (oi := { dst := (some 38), op := (Op.fieldAddr 55 (Operand.tmp 37) 1), type := 0, pos := "addr.go:306", after := #[{ on := 13, ground := Ground.data }, { on := 2, ground := Ground.guard }], guard := (some (2, false)) }) (v := undef) rfl (by kernel_rfl) (by kernel_rfl) (by kernel_rfl) (fun _ _ _ h => h) (Or.inr ⟨by rfl, rfl⟩) (by assumption) ?_
          (try simp only [Act.put, List.setIfInBounds_toArray, List.set_cons_zero, List.set_cons_succ])
          refine wpAnyH_take (i := 15) (oi := { dst := (some 39), op := (Op.load 3 (Operand.tmp 38)), type := 3, pos := "addr.go:306", after := #[{ on := 14, ground := Ground.data }, { on := 2, ground := Ground.guard }], guard := (some (2, false)) }) (v := undef) rfl (by kernel_rfl) (by kernel_rfl) (by kernel_rfl) (fun _ _ _ h => h) (Or.inr ⟨by rfl, rfl⟩) (by assumption) ?_
          (try simp only [Act.put, List.setIfInBounds_toArray, List.set_cons_zero, List.set_cons_succ])
          refine wpAnyH_take (i := 16) (oi := { dst := (some 40), op := (Op.move (Operand.tmp 2)), type := 50, pos := "addr.go:306", after := #[{ on := 2, ground := Ground.guard }], guard := (some (2, false)) }) (v := undef) rfl (by kernel_rfl) (by kernel_rfl) (by kernel_rfl) (fun _ _ _ h => h) (Or.inr ⟨by rfl, rfl⟩) (by assumption) ?_
          (try simp only [Act.put, List.setIfInBounds_toArray, List.set_cons_zero, List.set_cons_succ])
          refine wpAnyH_take (i := 17) (oi := { dst := (some 41), op := (Op.move (Operand.tmp 8)), type := 3, pos := "addr.go:306", after := #[{ on := 2, ground := Ground.guard }], guard := (some (2, false)) }) (v := undef) rfl (by kernel_rfl) (by kernel_rfl) (by kernel_rfl) (fun _ _ _ h => h) (Or.inr ⟨by rfl, rfl⟩) (by assumption) ?_
          (try simp only [Act.put, List.setIfInBounds_toArray, List.set_cons_zero, List.set_cons_succ])
          refine wpAnyH_take (i := 18) (oi := { dst := (some 42), op := (Op.indexAddr 50 (Operand.tmp 40) (Operand.tmp 41)), type := 0, pos := "addr.go:306", after := #[{ on := 16, ground := Ground.data }, { on := 17, ground := Ground.data }, { on := 2, ground := Ground.guard }], guard := (some (2, false)) }) (v := undef) rfl (by kernel_rfl) (by kernel_rfl) (by kernel_rfl) (fun _ _ _ h => h) (Or.inr ⟨by rfl, rfl⟩) (by assumption) ?_
          (try simp only [Act.put, List.setIfInBounds_toArray, List.set_cons_zero, List.set_cons_succ])
          refine wpAnyH_take (i := 19) (oi := { dst := (some 43), op := (Op.fieldAddr 57 (Operand.tmp 42) 1), type := 0, pos := "addr.go:306", after := #[{ on := 18, ground := Ground.data }, { on := 2, ground := Ground.guard }], guard := (some (2, false)) }) (v := undef) rfl (by kernel_rfl) (by kernel_rfl) (by kernel_rfl) (fun _ _ _ h => h) (Or.inr ⟨by rfl, rfl⟩) (by assumption) ?_
          (try simp only [Act.put, List.setIfInBounds_toArray, List.set_cons_zero, List.set_cons_succ])
          refine wpAnyH_take (i := 20) (oi := { dst := (some 44), op := (Op.fieldAddr 55 (Operand.tmp 43) 1), type := 0, pos := "addr.go:306", after := #[{ on := 19, ground := Ground.data }, { on := 2, ground := Ground.guard }], guard := (some (2, false)) }) (v := undef) rfl (by kernel_rfl) (by kernel_rfl) (by kernel_rfl) (fun _ _ _ h => h) (Or.inr ⟨by rfl, rfl⟩) (by assumption) ?_
          (try simp only [Act.put, List.setIfInBounds_toArray, List.set_cons_zero, List.set_cons_succ])
          refine wpAnyH_take (i := 21) (oi := { dst := (some 45), op := (Op.load 3 (Operand.tmp 44)), type := 3, pos := "addr.go:306", after := #[{ on := 20, ground := Ground.data }, { on := 2, ground := Ground.guard }], guard := (some (2, false)) }) (v := undef) rfl (by kernel_rfl) (by kernel_rfl) (by kernel_rfl) (fun _ _ _ h => h) (Or.inr ⟨by rfl, rfl⟩) (by assumption) ?_
          (try simp only [Act.put, List.setIfInBounds_toArray, List.set_cons_zero, List.set_cons_succ])
          refine wpAnyH_take (i := 22) (oi := { dst := (some 46), op := (Op.call { callee := (Callee.value (Operand.func 110)), args := #[(Operand.tmp 39), (Operand.tmp 45)], argTypes := #[3, 3] }), type := 3, pos := "addr.go:306", after := #[{ on := 15, ground := Ground.data }, { on := 21, ground := Ground.data }, { on := 12, ground := Ground.chain }, { on := 2, ground := Ground.guard }], guard := (some (2, false)) }) (v := undef) rfl (by kernel_rfl) (by kernel_rfl) (by kernel_rfl) (fun _ _ _ h => h) (Or.inr ⟨by rfl, rfl⟩) (by assumption) ?_
          (try simp only [Act.put, List.setIfInBounds_toArray, List.set_cons_zero, List.set_cons_succ])
          refine wpAnyH_take (i := 23) (oi := { dst := (some 47), op := (Op.buildSlice 188 2 #[(0, (Operand.tmp 36)), (1, (Operand.tmp 46))]), type := 188, pos := "addr.go:306", after := #[{ on := 12, ground := Ground.data }, { on := 22, ground := Ground.data }, { on := 2, ground := Ground.guard }], guard := (some (2, false)) }) (v := undef) rfl (by kernel_rfl) (by kernel_rfl) (by kernel_rfl) (fun _ _ _ h => h) (Or.inr ⟨by rfl, rfl⟩) (by assumption) ?_
          (try simp only [Act.put, List.setIfInBounds_toArray, List.set_cons_zero, List.set_cons_succ])
          refine wpAnyH_take (i := 24) (oi := { dst := (some 48), op := (Op.call { callee := (Callee.value (Operand.func 109)), args := #[(Operand.tmp 47)], argTypes := #[188] }), type := 3, pos := "addr.go:306", after := #[{ on := 23, ground := Ground.data }, { on := 22, ground := Ground.chain }, { on := 2, ground := Ground.guard }], guard := (some (2, false)) }) (v := undef) rfl (by kernel_rfl) (by kernel_rfl) (by kernel_rfl) (fun _ _ _ h => h) (Or.inr ⟨by rfl, rfl⟩) (by assumption) ?_
          (try simp only [Act.put, List.setIfInBounds_toArray, List.set_cons_zero, List.set_cons_succ])
          refine wpAnyH_take (i := 25) (oi := { dst := (some 49), op := (Op.binOp BinOp.gtr 3 (Operand.tmp 48) (Operand.const (Value.int IntKind.i64 0)) 3), type := 4, pos := "addr.go:306", after := #[{ on := 24, ground := Ground.data }, { on := 2, ground := Ground.guard }], guard := (some (2, false)) }) (v := undef) rfl (by kernel_rfl) (by kernel_rfl) (by kernel_rfl) (fun _ _ _ h => h) (Or.inr ⟨by rfl, rfl⟩) (by assumption) ?_
          (try simp only [Act.put, List.setIfInBounds_toArray, List.set_cons_zero, List.set_cons_succ])
          refine wpAnyH_take (i := 26) (oi := { dst := (some 50), op := (Op.pick (Operand.tmp 26) (Operand.const (Value.bool true)) (Operand.tmp 49)), type := 4, pos := "addr.go:306", after := #[{ on := 2, ground := Ground.data }, { on := 25, ground := Ground.data }], guard := none }) (v := ?_) rfl (by kernel_rfl) (by kernel_rfl) (by kernel_rfl) (fun _ _ _ h => h) (Or.inl ⟨by rfl, ?_⟩) (by assumption) ?_
          rotate_left
          · intro w hSw
            (try dsimp only at hSw)
            go_simp
            with_reducible rfl
          (try simp only [Act.put, List.setIfInBounds_toArray, List.set_cons_zero, List.set_cons_succ])
          refine wpAnyH_done (by kernel_rfl) ?_ _
          go_wp2_with fail
          refine ⟨⟨i + 1, i, true, rfl, rfl, by congr 1, by omega, hb.out.first hget.out hm.out, hHeld.1, ⟨hHeld.2.1.2.1, hHeld.2.1.2.2.1, trivial⟩, hHeld.2.2⟩, by simp [intOf]; omega⟩
        · obtain ⟨hk, bp, hbp, -⟩ := hb.out.yes rfl
          have hbf := Lib.hid (Hf.out bp (List.mem_of_getElem? hbp))
          have hkl : (k : Int) < l.length := by omega
          obtain ⟨y1, hy1⟩ : ∃ y, Lib.compareInt p.d.n bp.d.n = y := ⟨_, rfl⟩
          obtain ⟨y2, hy2⟩ : ∃ y, Lib.compareInt p.s.n bp.s.n = y := ⟨_, rfl⟩
          have hcI1 : ∀ (W : World), Calls Tryz.prog 110 #[.int .i64 p.d.n, .int .i64 bp.d.n] W fun e w' => e = .returned (.int .i64 y1) ∧ w' = W := fun W => by rw [← hy1]; exact cmpI _ _
          have hcI2 : ∀ (W : World), Calls Tryz.prog 110 #[.int .i64 p.s.n, .int .i64 bp.s.n] W fun e w' => e = .returned (.int .i64 y2) ∧ w' = W := fun W => by rw [← hy2]; exact cmpI _ _
          obtain ⟨z, hz⟩ : ∃ z, or2 (Lib.compareInt p.d.n bp.d.n) (Lib.compareInt p.s.n bp.s.n) = z := ⟨_, rfl⟩
          replace hbp := Lib.hid hbp
          have hor : ∀ (W : World) (g : Nat), W.heap[g]? = some (.cells #[.int .i64 y1, .int .i64 y2] 3 (0, 0)) → Calls Tryz.prog 109 #[.slice (some ⟨g, 0, none⟩) 2 2] W fun e w' => e = .returned (.int .i64 z) ∧ w' = W   := fun W g hg => by rw [← hz, hy1, hy2]; exact or_any hg
          obtain ⟨tz, htz⟩ : ∃ t, decide (0 < z) = t := ⟨_, rfl⟩
          replace htz := Lib.hid htz
          replace hor := Lib.hid hor
          replace hcI1 := Lib.hid hcI1
          replace hcI2 := Lib.hid hcI2
          replace hy1 := Lib.hid hy1
          replace hy2 := Lib.hid hy2
          replace hz := Lib.hid hz
          go_wp2_with (first
            | (refine wpList_load_mid rfl 57 (.tmp 17) rfl b (o + i * 34) rfl (ppCs p) _ hra Tryz.underlying57 rfl (by rw [ppCs_len hp.out]; exact size57) ?_)
            | (refine wpList_store_new rfl 57 (.tmp 11) (.tmp 18) rfl rfl rfl (info57 hp.out) (by rw [ppCs_size hp.out] <;> rfl) (pp_one p) ?_)
            | (refine wpList_load_mid rfl 57 (.tmp 11) rfl wr.heap.size 0 rfl _ _ (row_load bx2.2.1.1) Tryz.underlying57 rfl (info57 hp.out) ?_)
            | (refine wpList_load_mid rfl 42 (.tmp 3) rfl w.heap.size 0 rfl _ _ (row_load bx2.2.1.2.1) Tryz.underlying42 rfl (info42 Hs.out) ?_)
            | (refine wpList_load_mid rfl 42 (.tmp 4) rfl (w.heap.size + 1) 0 rfl _ _ (row_load bx2.2.1.2.2.1) Tryz.underlying42 rfl (info42 Hd.out) ?_)
            | (go_at_call 37; refine hmat.mono ?_; clear hmat; rintro e w5 ⟨rfl, bel5⟩; have bx5 := bx2.go bel5))
          go_wp2_with fail
          refine wp_region_held_drew (S := (Bx w w.heap.size [(wr.heap.size, oPP p), (w.heap.size, oA src), (w.heap.size + 1, oA dst)])) (by kernel_rfl) (Bx.drew bx5) (fun hHeld => ?_)
          refine wpAnyH_take (i := 0) (oi := { dst := (some 24), op := (Op.move (Operand.tmp 9)), type := 4, pos := "addr.go:306", after := #[], guard := none }) (v := ?_) rfl (by kernel_rfl) (by kernel_rfl) (by kernel_rfl) (fun _ _ _ h => h) (Or.inl ⟨by rfl, ?_⟩) (by assumption) ?_
          rotate_left
          · intro w hSw
            (try dsimp only at hSw)
            go_simp
            with_reducible rfl
          (try simp only [Act.put, List.setIfInBounds_toArray, List.set_cons_zero, List.set_cons_succ])
          refine wpAnyH_take (i := 1) (oi := { dst := (some 25), op := (Op.unOp UnOp.not 4 (Operand.tmp 24)), type := 4, pos := "addr.go:306", after := #[{ on := 0, ground := Ground.data }], guard := none }) (v := ?_) rfl (by kernel_rfl) (by kernel_rfl) (by kernel_rfl) (fun _ _ _ h => h) (Or.inl ⟨by rfl, ?_⟩) (by assumption) ?_
          rotate_left
          · intro w hSw
            (try dsimp only at hSw)
            go_simp
            with_reducible rfl
          (try simp only [Act.put, List.setIfInBounds_toArray, List.set_cons_zero, List.set_cons_succ])
          refine wpAnyH_take (i := 2) (oi := { dst := (some 26), op := (Op.move (Operand.tmp 25)), type := 4, pos := "addr.go:306", after := #[{ on := 1, ground := Ground.data }], guard := none }) (v := ?_) rfl (by kernel_rfl) (by kernel_rfl) (by kernel_rfl) (fun _ _ _ h => h) (Or.inl ⟨by rfl, ?_⟩) (by assumption) ?_
          rotate_left
          · intro w hSw
            (try dsimp only at hSw)
            go_simp
            with_reducible rfl
          (try simp only [Act.put, List.setIfInBounds_toArray, List.set_cons_zero, List.set_cons_succ])
          refine wpAnyH_take (i := 3) (oi := { dst := (some 27), op := (Op.fieldAddr 57 (Operand.tmp 11) 0), type := 0, pos := "addr.go:306", after := #[{ on := 2, ground := Ground.guard }], guard := (some (2, false)) }) (v := ?_) rfl (by kernel_rfl) (by kernel_rfl) (by kernel_rfl) (fun _ _ _ h => h) (Or.inl ⟨by rfl, ?_⟩) (by assumption) ?_
          rotate_left
          · intro w hSw
            (try dsimp only at hSw)
            go_simp
            with_reducible rfl
          (try simp only [Act.put, List.setIfInBounds_toArray, List.set_cons_zero, List.set_cons_succ])
          refine wpAnyH_take (i := 4) (oi := { dst := (some 28), op := (Op.fieldAddr 55 (Operand.tmp 27) 1), type := 0, pos := "addr.go:306", after := #[{ on := 3, ground := Ground.data }, { on := 2, ground := Ground.guard }], guard := (some (2, false)) }) (v := ?_) rfl (by kernel_rfl) (by kernel_rfl) (by kernel_rfl) (fun _ _ _ h => h) (Or.inl ⟨by rfl, ?_⟩) (by assumption) ?_
          rotate_left
          · intro w hSw
            (try dsimp only at hSw)
            go_simp
            with_reducible rfl
          (try simp only [Act.put, List.setIfInBounds_toArray, List.set_cons_zero, List.set_cons_succ])
          refine wpAnyH_take (i := 5) (oi := { dst := (some 29), op := (Op.load 3 (Operand.tmp 28)), type := 3, pos := "addr.go:306", after := #[{ on := 4, ground := Ground.data }, { on := 2, ground := Ground.guard }], guard := (some (2, false)) }) (v := .int .i64 p.d.n) rfl (by kernel_rfl) (by kernel_rfl) (by kernel_rfl) (fun _ _ _ h => h) (Or.inl ⟨by rfl, fun W hW => ?_⟩) (by assumption) ?_
          · have q : W.cell? ⟨wr.heap.size, 16, none⟩ = some (.int .i64 p.d.n) := (row_cell hW.2.1.1).trans (by rw [List.getElem?_toArray]; exact ppCs_d hp.out)
            go_simp
          (try simp only [Act.put, List.setIfInBounds_toArray, List.set_cons_zero, List.set_cons_succ])
          refine wpAnyH_take (i := 6) (oi := { dst := (some 30), op := (Op.move (Operand.tmp 2)), type := 50, pos := "addr.go:306", after := #[{ on := 2, ground := Ground.guard }], guard := (some (2, false)) }) (v := ?_) rfl (by kernel_rfl) (by kernel_rfl) (by kernel_rfl) (fun _ _ _ h => h) (Or.inl ⟨by rfl, ?_⟩) (by assumption) ?_
          rotate_left
          · intro w hSw
            (try dsimp only at hSw)
            go_simp
            with_reducible rfl
          (try simp only [Act.put, List.setIfInBounds_toArray, List.set_cons_zero, List.set_cons_succ])
          refine wpAnyH_take (i := 7) (oi := { dst := (some 31), op := (Op.move (Operand.tmp 8)), type := 3, pos := "addr.go:306", after := #[{ on := 2, ground := Ground.guard }], guard := (some (2, false)) }) (v := ?_) rfl (by kernel_rfl) (by kernel_rfl) (by kernel_rfl) (fun _ _ _ h => h) (Or.inl ⟨by rfl, ?_⟩) (by assumption) ?_
          rotate_left
          · intro w hSw
            (try dsimp only at hSw)
            go_simp
            with_reducible rfl
          (try simp only [Act.put, List.setIfInBounds_toArray, List.set_cons_zero, List.set_cons_succ])
          refine wpAnyH_take (i := 8) (oi := { dst := (some 32), op := (Op.indexAddr 50 (Operand.tmp 30) (Operand.tmp 31)), type := 0, pos := "addr.go:306", after := #[{ on := 6, ground := Ground.data }, { on := 7, ground := Ground.data }, { on := 2, ground := Ground.guard }], guard := (some (2, false)) }) (v := ?_) rfl (by kernel_rfl) (by kernel_rfl) (by kernel_rfl) (fun _ _ _ h => h) (Or.inl ⟨by rfl, ?_⟩) (by assumption) ?_
          rotate_left
          · intro w hSw
            (try dsimp only at hSw)
            go_simp
            with_reducible rfl
          (try simp only [Act.put, List.setIfInBounds_toArray, List.set_cons_zero, List.set_cons_succ])
          refine wpAnyH_take (i := 9) (oi := { dst := (some 33), op := (Op.fieldAddr 57 (Operand.tmp 32) 0), type := 0, pos := "addr.go:306", after := #[{ on := 8, ground := Ground.data }, { on := 2, ground := Ground.guard }], guard := (some (2, false)) }) (v := ?_) rfl (by kernel_rfl) (by kernel_rfl) (by kernel_rfl) (fun _ _ _ h => h) (Or.inl ⟨by rfl, ?_⟩) (by assumption) ?_
          rotate_left
          · intro w hSw
            (try dsimp only at hSw)
            go_simp
            with_reducible rfl
          (try simp only [Act.put, List.setIfInBounds_toArray, List.set_cons_zero, List.set_cons_succ])
          refine wpAnyH_take (i := 10) (oi := { dst := (some 34), op := (Op.fieldAddr 55 (Operand.tmp 33) 1), type := 0, pos := "addr.go:306", after := #[{ on := 9, ground := Ground.data }, { on := 2, ground := Ground.guard }], guard := (some (2, false)) }) (v := ?_) rfl (by kernel_rfl) (by kernel_rfl) (by kernel_rfl) (fun _ _ _ h => h) (Or.inl ⟨by rfl, ?_⟩) (by assumption) ?_
          rotate_left
          · intro w hSw
            (try dsimp only at hSw)
            go_simp
            with_reducible rfl
          (try simp only [Act.put, List.setIfInBounds_toArray, List.set_cons_zero, List.set_cons_succ])
          refine wpAnyH_take (i := 11) (oi := { dst := (some 35), op := (Op.load 3 (Operand.tmp 34)), type := 3, pos := "addr.go:306", after := #[{ on := 10, ground := Ground.data }, { on := 2, ground := Ground.guard }], guard := (some (2, false)) }) (v := .int .i64 bp.d.n) rfl (by kernel_rfl) (by kernel_rfl) (by kernel_rfl) (fun _ _ _ h => h) (Or.inl ⟨by rfl, fun W hW => ?_⟩) (by assumption) ?_
          · have q : W.cell? ⟨b, o + k * 34 + 16, none⟩ = some (.int .i64 bp.d.n) := by rw [Nat.add_assoc]; exact (hr.out.later hW.1).cells (prs_at Hf.out hbp.out (ppCs_d hbf.out))
            go_simp
          (try simp only [Act.put, List.setIfInBounds_toArray, List.set_cons_zero, List.set_cons_succ])
          refine wpAnyH_take (i := 13) (oi := { dst := (some 37), op := (Op.fieldAddr 57 (Operand.tmp 11) 1), type := 0, pos := "addr.go:306", after := #[{ on := 2, ground := Ground.guard }], guard := (some (2, false)) }) (v := ?_) rfl (by kernel_rfl) (by kernel_rfl) (by kernel_rfl) (fun _ _ _ h => h) (Or.inl ⟨by rfl, ?_⟩) (by assumption) ?_
          rotate_left
          · intro w hSw
            (try dsimp only at hSw)
            go_simp
            with_reducible rfl
          (try simp only [Act.put, List.setIfInBounds_toArray, List.set_cons_zero, List.set_cons_succ])
          refine wpAnyH_take (i := 14) (oi := { dst := (some 38), op := (Op.fieldAddr 55 (Operand.tmp 37) 1), type := 0, pos := "addr.go:306", after := #[{ on := 13, ground := Ground.data }, { on := 2, ground := Ground.guard }], guard := (some (2, false)) }) (v := ?_) rfl (by kernel_rfl) (by kernel_rfl) (by kernel_rfl) (fun _ _ _ h => h) (Or.inl ⟨by rfl, ?_⟩) (by assumption) ?_
          rotate_left
          · intro w hSw
            (try dsimp only at hSw)
            go_simp
            with_reducible rfl
          (try simp only [Act.put, List.setIfInBounds_toArray, List.set_cons_zero, List.set_cons_succ])
          refine wpAnyH_take (i := 15) (oi := { dst := (some 39), op := (Op.load 3 (Operand.tmp 38)), type := 3, pos := "addr.go:306", after := #[{ on := 14, ground := Ground.data }, { on := 2, ground := Ground.guard }], guard := (some (2, false)) }) (v := .int .i64 p.s.n) rfl (by kernel_rfl) (by kernel_rfl) (by kernel_rfl) (fun _ _ _ h => h) (Or.inl ⟨by rfl, fun W hW => ?_⟩) (by assumption) ?_
          · have q : W.cell? ⟨wr.heap.size, 33, none⟩ = some (.int .i64 p.s.n) := (row_cell hW.2.1.1).trans (by rw [List.getElem?_toArray]; exact ppCs_s hp.out)
            go_simp
          (try simp only [Act.put, List.setIfInBounds_toArray, List.set_cons_zero, List.set_cons_succ])
          refine wpAnyH_take (i := 16) (oi := { dst := (some 40), op := (Op.move (Operand.tmp 2)), type := 50, pos := "addr.go:306", after := #[{ on := 2, ground := Ground.guard }], guard := (some (2, false)) }) (v := ?_) rfl (by kernel_rfl) (by kernel_rfl) (by kernel_rfl) (fun _ _ _ h => h) (Or.inl ⟨by rfl, ?_⟩) (by assumption) ?_
          rotate_left
          · intro w hSw
            (try dsimp only at hSw)
            go_simp
            with_reducible rfl
          (try simp only [Act.put, List.setIfInBounds_toArray, List.set_cons_zero, List.set_cons_succ])
          refine wpAnyH_take (i := 17) (oi := { dst := (some 41), op := (Op.move (Operand.tmp 8)), type := 3, pos := "addr.go:306", after := #[{ on := 2, ground := Ground.guard }], guard := (some (2, false)) }) (v := ?_) rfl (by kernel_rfl) (by kernel_rfl) (by kernel_rfl) (fun _ _ _ h => h) (Or.inl ⟨by rfl, ?_⟩) (by assumption) ?_
          rotate_left
          · intro w hSw
            (try dsimp only at hSw)
            go_simp
            with_reducible rfl
          (try simp only [Act.put, List.setIfInBounds_toArray, List.set_cons_zero, List.set_cons_succ])
          refine wpAnyH_take (i := 18) (oi := { dst := (some 42), op := (Op.indexAddr 50 (Operand.tmp 40) (Operand.tmp 41)), type := 0, pos := "addr.go:306", after := #[{ on := 16, ground := Ground.data }, { on := 17, ground := Ground.data }, { on := 2, ground := Ground.guard }], guard := (some (2, false)) }) (v := ?_) rfl (by kernel_rfl) (by kernel_rfl) (by kernel_rfl) (fun _ _ _ h => h) (Or.inl ⟨by rfl, ?_⟩) (by assumption) ?_
          rotate_left
          · intro w hSw
            (try dsimp only at hSw)
            go_simp
            with_reducible rfl
          (try simp only [Act.put, List.setIfInBounds_toArray, List.set_cons_zero, List.set_cons_succ])
          refine wpAnyH_take (i := 19) (oi := { dst := (some 43), op := (Op.fieldAddr 57 (Operand.tmp 42) 1), type := 0, pos := "addr.go:306", after := #[{ on := 18, ground := Ground.data }, { on := 2, ground := Ground.guard }], guard := (some (2, false)) }) (v := ?_) rfl (by kernel_rfl) (by kernel_rfl) (by kernel_rfl) (fun _ _ _ h => h) (Or.inl ⟨by rfl, ?_⟩) (by assumption) ?_
          rotate_left
          · intro w hSw
            (try dsimp only at hSw)
            go_simp
            with_reducible rfl
          (try simp only [Act.put, List.setIfInBounds_toArray, List.set_cons_zero, List.set_cons_succ])
          refine wpAnyH_take (i := 20) (oi := { dst := (some 44), op := (Op.fieldAddr 55 (Operand.tmp 43) 1), type := 0, pos := "addr.go:306", after := #[{ on := 19, ground := Ground.data }, { on := 2, ground := Ground.guard }], guard := (some (2, false)) }) (v := ?_) rfl (by kernel_rfl) (by kernel_rfl) (by kernel_rfl) (fun _ _ _ h => h) (Or.inl ⟨by rfl, ?_⟩) (by assumption) ?_
          rotate_left
          · intro w hSw
            (try dsimp only at hSw)
            go_simp
            with_reducible rfl
          (try simp only [Act.put, List.setIfInBounds_toArray, List.set_cons_zero, List.set_cons_succ])
          refine wpAnyH_take (i := 21) (oi := { dst := (some 45), op := (Op.load 3 (Operand.tmp 44)), type := 3, pos := "addr.go:306", after := #[{ on := 20, ground := Ground.data }, { on := 2, ground := Ground.guard }], guard := (some (2, false)) }) (v := .int .i64 bp.s.n) rfl (by kernel_rfl) (by kernel_rfl) (by kernel_rfl) (fun _ _ _ h => h) (Or.inl ⟨by rfl, fun W hW => ?_⟩) (by assumption) ?_
          · have q : W.cell? ⟨b, o + k * 34 + 17 + 16, none⟩ = some (.int .i64 bp.s.n) := by rw [Nat.add_assoc, Nat.add_assoc]; exact (hr.out.later hW.1).cells (prs_at Hf.out hbp.out (ppCs_s hbf.out))
            go_simp
          (try simp only [Act.put, List.setIfInBounds_toArray, List.set_cons_zero, List.set_cons_succ])
          refine wpAnyH_ready (rs := [12]) (by kernel_rfl) (by simp) ?_
          refine AllReadyH.cons (o := { dst := (some 36), op := (Op.call { callee := (Callee.value (Operand.func 110)), args := #[(Operand.tmp 29), (Operand.tmp 35)], argTypes := #[3, 3] }), type := 3, pos := "addr.go:306", after := #[{ on := 5, ground := Ground.data }, { on := 11, ground := Ground.data }, { on := 2, ground := Ground.chain }, { on := 2, ground := Ground.guard }], guard := (some (2, false)) }) rfl (fun K hK => ?_) AllReadyH.nil
          go_simp
          refine (hcI1.out _).mono ?_
          rintro e w6 ⟨rfl, rfl⟩
          refine hK.out _ _ ?_ (fun hHeld => ?_)
          · exact hHeld
          clear hK K
          (try simp only [Act.put, List.setIfInBounds_toArray, List.set_cons_zero, List.set_cons_succ])
          refine wpAnyH_ready (rs := [22]) (by kernel_rfl) (by simp) ?_
          refine AllReadyH.cons (o := { dst := (some 46), op := (Op.call { callee := (Callee.value (Operand.func 110)), args := #[(Operand.tmp 39), (Operand.tmp 45)], argTypes := #[3, 3] }), type := 3, pos := "addr.go:306", after := #[{ on := 15, ground := Ground.data }, { on := 21, ground := Ground.data }, { on := 12, ground := Ground.chain }, { on := 2, ground := Ground.guard }], guard := (some (2, false)) }) rfl (fun K hK => ?_) AllReadyH.nil
          go_simp
          refine (hcI2.out _).mono ?_
          rintro e w7 ⟨rfl, rfl⟩
          refine hK.out _ _ ?_ (fun hHeld => ?_)
          · exact hHeld
          clear hK K
          (try simp only [Act.put, List.setIfInBounds_toArray, List.set_cons_zero, List.set_cons_succ])
          refine wpAnyH_ready (rs := [23]) (by kernel_rfl) (by simp) ?_
          refine AllReadyH.cons (o := { dst := (some 47), op := (Op.buildSlice 188 2 #[(0, (Operand.tmp 36)), (1, (Operand.tmp 46))]), type := 188, pos := "addr.go:306", after := #[{ on := 12, ground := Ground.data }, { on := 22, ground := Ground.data }, { on := 2, ground := Ground.guard }], guard := (some (2, false)) }) rfl (fun K hK => ?_) AllReadyH.nil
          go_simp
          refine hK.out _ _ ?_ (fun hHeld => ?_)
          · exact hHeld.go ((Below.refl _ _).alloc (Nat.le_refl _) _)
          clear hK K
          (try simp only [Act.put, List.setIfInBounds_toArray, List.set_cons_zero, List.set_cons_succ])
          refine wpAnyH_ready (rs := [24]) (by kernel_rfl) (by simp) ?_
          refine AllReadyH.cons (o := { dst := (some 48), op := (Op.call { callee := (Callee.value (Operand.func 109)), args := #[(Operand.tmp 47)], argTypes := #[188] }), type := 3, pos := "addr.go:306", after := #[{ on := 23, ground := Ground.data }, { on := 22, ground := Ground.chain }, { on := 2, ground := Ground.guard }], guard := (some (2, false)) }) rfl (fun K hK => ?_) AllReadyH.nil
          go_simp
          refine (hor.out (w5.alloc (.cells #[.int .i64 y1, .int .i64 y2] 3)).drew w5.heap.size (box1 w5 _)).mono ?_
          rintro e w8 ⟨rfl, rfl⟩
          refine hK.out _ _ ?_ (fun hHeld => ?_)
          · exact hHeld
          clear hK K
          (try simp only [Act.put, List.setIfInBounds_toArray, List.set_cons_zero, List.set_cons_succ])
          refine wpAnyH_take (i := 25) (oi := { dst := (some 49), op := (Op.binOp BinOp.gtr 3 (Operand.tmp 48) (Operand.const (Value.int IntKind.i64 0)) 3), type := 4, pos := "addr.go:306", after := #[{ on := 24, ground := Ground.data }, { on := 2, ground := Ground.guard }], guard := (some (2, false)) }) (v := .bool tz) rfl (by kernel_rfl) (by kernel_rfl) (by kernel_rfl) (fun _ _ _ h => h) (Or.inl ⟨by rfl, fun W hW => ?_⟩) (by assumption) ?_
          · rw [← htz.out]
            go_simp
          (try simp only [Act.put, List.setIfInBounds_toArray, List.set_cons_zero, List.set_cons_succ])
          refine wpAnyH_take (i := 26) (oi := { dst := (some 50), op := (Op.pick (Operand.tmp 26) (Operand.const (Value.bool true)) (Operand.tmp 49)), type := 4, pos := "addr.go:306", after := #[{ on := 2, ground := Ground.data }, { on := 25, ground := Ground.data }], guard := none }) (v := ?_) rfl (by kernel_rfl) (by kernel_rfl) (by kernel_rfl) (fun _ _ _ h => h) (Or.inl ⟨by rfl, ?_⟩) (by assumption) ?_
          rotate_left
          · intro w hSw
            (try dsimp only at hSw)
            go_simp
            with_reducible rfl
          (try simp only [Act.put, List.setIfInBounds_toArray, List.set_cons_zero, List.set_cons_succ])
          refine wpAnyH_done (by kernel_rfl) ?_ _
          clear hor hcI1 hcI2 hkl hrr hra bx2 bx5 bel5 B0 q1 q2 q3 hk
          generalize (World.alloc w5 (.cells #[.int .i64 y1, .int .i64 y2] 3)).drew = W9 at hHeld ⊢
          cases tz
          · have hnz : Hid (¬ 0 < z) := Lib.hid (of_decide_eq_false htz.out)
            go_wp2_with fail
            refine ⟨⟨i + 1, k, true, rfl, rfl, by congr 1, by omega, hb.out.stay hget.out hbp.out (by rw [hz.out]; have := hnz.out; omega), hHeld.1, ⟨hHeld.2.1.2.1, hHeld.2.1.2.2.1, trivial⟩, hHeld.2.2⟩, by simp [intOf]; omega⟩
          · have hnz : Hid (0 < z) := Lib.hid (of_decide_eq_true htz.out)
            go_wp2_with fail
            refine ⟨⟨i + 1, i, true, rfl, rfl, by congr 1, by omega, hb.out.turn hget.out hbp.out hm.out (by rw [hz.out]; have := hnz.out; omega), hHeld.1, ⟨hHeld.2.1.2.1, hHeld.2.1.2.2.1, trivial⟩, hHeld.2.2⟩, by simp [intOf]; omega⟩
    · obtain rfl : i = l.length := by omega
      have hlt2 : decide ((l.length : Int) < l.length) = false := decide_eq_false (by omega)
      go_wp2_with fail
      go_ret2
      exact ⟨⟨k, ok, rfl, hb.out⟩, bx.1⟩
end Go.Proofs.YtnljjlaececnkaaGreatDoor
