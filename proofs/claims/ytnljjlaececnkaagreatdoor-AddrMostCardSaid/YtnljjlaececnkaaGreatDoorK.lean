/-
  strings.SplitSeq at a separator of one byte: each piece in turn. No condition.
-/
import Derived.Test.YtnljjlaececnkaaGreatDoorJ
namespace Go.Proofs.YtnljjlaececnkaaGreatDoor
open Go.RowKit Go.Shelf
set_option linter.unusedVariables false
set_option linter.unusedSimpArgs false
attribute [local go_sem] Oper.semAt_some
/-- The iterator's three boxes lie as they lay. -/
def Kp3 (b : Nat) (A B : World) : Prop := A.heap.size ≤ B.heap.size ∧ ∀ k, b ≤ k → k < b + 3 → B.heap[k]? = A.heap[k]?
def boxLen (b : Nat) (W : World) : Nat := match W.cell? ⟨b, 0, none⟩ with
  | some (.string s) => s.size
  | _ => 0
def SBox (b : Nat) (v : Value) (t : TypeId) (W : World) : Prop := W.heap[b]? = some (.cells #[v] t (0, 0))
theorem idx_n {w : World} {s : ByteArray} {c : UInt8} {n : Int} (h : Lib.indexByte s.data.toList c = n) : Calls Tryz.prog 204 #[.string s, .string ⟨#[c]⟩] w fun e w' => e = .returned (.int .i64 n) ∧ w' = w := by
  rw [← h]; exact Tryz.strings_Index_one s c w
theorem pieces_miss {s : ByteArray} {c : UInt8} (h : Lib.indexByte s.data.toList c = -1) : pieces s ⟨#[c]⟩ = [s] := by
  have h1 : Lib.indexB s ⟨#[c]⟩ = -1 := by rw [← h]; exact Lib.index_one _ _
  exact Lib.splitB_miss _ _ _ _ h1
theorem pieces_hit {s : ByteArray} {c : UInt8} {i : Nat} (h : Lib.indexByte s.data.toList c = i) : pieces s ⟨#[c]⟩ = s.extract 0 i :: pieces (s.extract (i + 1) s.size) ⟨#[c]⟩ := by
  have h1 : Lib.indexB s ⟨#[c]⟩ = i := by rw [← h]; exact Lib.index_one _ _
  unfold pieces
  rw [Lib.countB_hit s ⟨#[c]⟩ i (Nat.le_refl 1) h1, Nat.add_comm, Lib.splitB_hit _ _ _ _ _ h1]
  rfl
theorem index_hit {s : ByteArray} {c : UInt8} (h : Lib.indexByte s.data.toList c ≠ -1) : ∃ i : Nat, Lib.indexByte s.data.toList c = i ∧ i + 1 ≤ s.size := by
  rcases Lib.indexB_cases s ⟨#[c]⟩ with h1 | ⟨i, h1, h2⟩
  · exact absurd ((Lib.index_one _ _).symm.trans h1) h
  · exact ⟨i, (Lib.index_one _ _).symm.trans h1, h2⟩
set_option maxRecDepth 100000 in
set_option maxHeartbeats 1000000 in
theorem seq_in (s : ByteArray) (hs : s.size < 4294967281) (c : UInt8) (l b : Nat) (J Jx : List ByteArray → World → Prop)
    (hJ : ∀ s A B, J s A → (∃ u, B = A.setCell ⟨b, 0, none⟩ u) → J s B) (hJx : ∀ s A B, Jx s A → (∃ u, B = A.setCell ⟨b, 0, none⟩ u) → Jx s B)
    (hY : ∀ pre x W1, J pre W1 → (pre ++ [x]) <+: pieces s ⟨#[c]⟩ → YieldAt Fence.wide 3 Tryz.prog l #[.string x] W1 fun e W' => (e = .returned (.bool true) ∧ J (pre ++ [x]) W' ∧ Kp3 b W1 W') ∨ (e = .returned (.bool false) ∧ Jx (pre ++ [x]) W'))
    (W : World) (h1 : SBox b (.string s) 9 W) (h2 : SBox (b + 1) (.string ⟨#[c]⟩) 9 W) (h3 : SBox (b + 2) (.int .i64 0) 3 W) (h0 : J [] W) :
    CallsIn Fence.wide 4 Tryz.prog 292 #[.func (.yield l) #[] #[], .pointer (some ⟨b + 1, 0, none⟩), .pointer (some ⟨b, 0, none⟩), .pointer (some ⟨b + 2, 0, none⟩)] W fun e W' => (∃ v, e = .returned v) ∧ ((∃ xs, xs = pieces s ⟨#[c]⟩ ∧ J xs W') ∨ (∃ pre, pre <+: pieces s ⟨#[c]⟩ ∧ Jx pre W')) := by
  have c2 : W.cell? ⟨b + 1, 0, none⟩ = some (.string ⟨#[c]⟩) := row_cell h2
  refine callsIn_of_wp Tryz.func292 rfl trivial ?_ rfl
  simp only [Tryz.ntmps292, List.size_toArray, List.length_cons, List.length_nil, Nat.reduceAdd, Nat.reduceSub, Array.replicate_succ, Array.replicate_zero, List.push_toArray, List.append_toArray, List.nil_append, List.cons_append]
  gi_wp2
  gi_loopw [7] (fun x wr => ∃ (pre : List ByteArray) (cur : ByteArray), pieces s ⟨#[c]⟩ = pre ++ pieces cur ⟨#[c]⟩ ∧ cur.size ≤ s.size ∧ SBox b (.string cur) 9 wr ∧ SBox (b + 1) (.string ⟨#[c]⟩) 9 wr ∧ SBox (b + 2) (.int .i64 0) 3 wr ∧ J pre wr) (fun x wr => boxLen b wr)
  case atStart =>
    exact ⟨[], s, rfl, Nat.le_refl _, h1, h2, h3, h0⟩
  case round =>
    obtain ⟨pre, cur, hp, hcs, g1, g2, g3, hj⟩ := hrel
    clear h1 h2 h3 c2 h0
    have c1 : wr.cell? ⟨b, 0, none⟩ = some (.string cur) := row_cell g1
    have f1 : wr.frozen? ⟨b, 0, none⟩ = false := row_free g1
    have c2 : wr.cell? ⟨b + 1, 0, none⟩ = some (.string ⟨#[c]⟩) := row_cell g2
    have c3 : wr.cell? ⟨b + 2, 0, none⟩ = some (.int .i64 0) := row_cell g3
    by_cases hix : Lib.indexByte cur.data.toList c = -1
    · obtain ⟨fn, tmps, assign, body, hy, hR⟩ := hY pre cur wr hj (by rw [hp, pieces_miss hix]; exact List.prefix_refl _)
      gi_wp2_with (refine ⟨trivial, ?_⟩; gi_at_call 204; refine (callsIn_wide.2 (idx_n hix)).mono ?_; rintro e w' ⟨rfl, rfl⟩)
      refine hR.mono ?_
      rintro e W3 (⟨rfl, hJ3, hk3⟩ | ⟨rfl, hJx3⟩)
      · gi_wp2
        go_end0
        exact ⟨⟨_, rfl⟩, .inl ⟨_, by rw [hp, pieces_miss hix], hJ3⟩⟩
      · gi_wp2
        go_end0
        exact ⟨⟨_, rfl⟩, .inr ⟨_, by rw [hp, pieces_miss hix]; exact List.prefix_refl _, hJx3⟩⟩
    · obtain ⟨i, hi, hi2⟩ := index_hit hix
      obtain ⟨fn, tmps, assign, body, hy, hR⟩ := hY pre (cur.extract 0 i) wr hj (by rw [hp, pieces_hit hi]; exact ⟨pieces (cur.extract (i + 1) cur.size) ⟨#[c]⟩, by simp⟩)
      gi_wp2_with (refine ⟨trivial, ?_⟩; gi_at_call 204; refine (callsIn_wide.2 (idx_n hi)).mono ?_; rintro e w' ⟨rfl, rfl⟩)
      refine hR.mono ?_
      rintro e W3 (⟨rfl, hJ3, hk3⟩ | ⟨rfl, hJx3⟩)
      · have k1 : SBox b (.string cur) 9 W3 := (hk3.2 b (Nat.le_refl _) (by omega)).trans g1
        have k2 : SBox (b + 1) (.string ⟨#[c]⟩) 9 W3 := (hk3.2 (b + 1) (by omega) (by omega)).trans g2
        have k3 : SBox (b + 2) (.int .i64 0) 3 W3 := (hk3.2 (b + 2) (by omega) (by omega)).trans g3
        have d1 : W3.cell? ⟨b, 0, none⟩ = some (.string cur) := row_cell k1
        have e1 : W3.frozen? ⟨b, 0, none⟩ = false := row_free k1
        have d2 : W3.cell? ⟨b + 1, 0, none⟩ = some (.string ⟨#[c]⟩) := row_cell k2
        have hsz : (cur.extract (i + 1) cur.size).size = cur.size - (i + 1) := by rw [ByteArray.size_extract]; omega
        replace k1 := Lib.hid k1
        replace k2 := Lib.hid k2
        replace k3 := Lib.hid k3
        gi_wp2
        go_roundw
        case rel =>
          have q1 : SBox b (.string (cur.extract (i + 1) cur.size)) 9 (W3.setCell ⟨b, 0, none⟩ (.string (cur.extract (i + 1) cur.size))) := row_set k1.out (i := 0) (cs' := #[.string (cur.extract (i + 1) cur.size)]) (.string (cur.extract (i + 1) cur.size)) rfl
          refine ⟨pre ++ [cur.extract 0 i], cur.extract (i + 1) cur.size, by rw [hp, pieces_hit hi, List.append_assoc]; rfl, by omega, q1, ?_, ?_, hJ _ _ _ hJ3 ⟨_, rfl⟩⟩
          · exact (Below.heap_setCell _ _ _ _ (by simp)).trans k2.out
          · exact (Below.heap_setCell _ _ _ _ (by simp)).trans k3.out
        case measure =>
          have q1 : (W3.setCell ⟨b, 0, none⟩ (.string (cur.extract (i + 1) cur.size))).cell? ⟨b, 0, none⟩ = some (.string (cur.extract (i + 1) cur.size)) := row_cell (row_set k1.out (i := 0) (cs' := #[.string (cur.extract (i + 1) cur.size)]) (.string (cur.extract (i + 1) cur.size)) rfl)
          unfold boxLen
          rw [q1, c1]
          simp only [hsz]
          omega
      · gi_wp2
        refine bodyPost_ret (results_none rfl _ _ _) rfl ?_
        exact ⟨⟨_, rfl⟩, .inr ⟨pre ++ [cur.extract 0 i], by rw [hp, pieces_hit hi]; exact ⟨pieces (cur.extract (i + 1) cur.size) ⟨#[c]⟩, by simp⟩, hJx3⟩⟩
/-- SplitSeq hands back a value that gives the pieces. -/
theorem seq_stops (s : ByteArray) (hs : s.size < 4294967281) (c : UInt8) (b : Nat) (w : World) (h1 : SBox b (.string s) 9 w) (h2 : SBox (b + 1) (.string ⟨#[c]⟩) 9 w) (h3 : SBox (b + 2) (.int .i64 0) 3 w) :
    SeqT Fence.wide 4 Tryz.prog 292 #[.pointer (some ⟨b + 1, 0, none⟩), .pointer (some ⟨b, 0, none⟩), .pointer (some ⟨b + 2, 0, none⟩)] Value.string (fun A B => ∃ u, B = A.setCell ⟨b, 0, none⟩ u) (Kp3 b) (fun pre x => (pre ++ [x]) <+: pieces s ⟨#[c]⟩) (fun xs => xs = pieces s ⟨#[c]⟩) (fun pre => pre <+: pieces s ⟨#[c]⟩) w := by
  intro l J Jx W hW hJ hJx hY h0
  exact seq_in s hs c l b J Jx hJ hJx hY W (Below.box h1 hW (lt_of_obj h1)) (Below.box h2 hW (lt_of_obj h2)) (Below.box h3 hW (lt_of_obj h3)) h0
set_option maxRecDepth 100000 in
set_option maxHeartbeats 400000 in
theorem splitSeq_any {w : World} (s sep : ByteArray) : Calls Tryz.prog 205 #[.string s, .string sep] w fun e w' => e = .returned (.func (.func 292) #[] #[.pointer (some ⟨w.heap.size + 1, 0, none⟩), .pointer (some ⟨w.heap.size, 0, none⟩), .pointer (some ⟨w.heap.size + 2, 0, none⟩)]) ∧ w' = ((w.alloc (.cells #[.string s] 9)).alloc (.cells #[.string sep] 9)).alloc (.cells #[.int .i64 0] 3) := by
  go_enter Tryz.func205, Tryz.ntmps205
  go_wp2
  go_ret
  exact ⟨rfl, rfl⟩
end Go.Proofs.YtnljjlaececnkaaGreatDoor
