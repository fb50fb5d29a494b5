/-
  The reader that is nil; the lively example of the octet statements. No condition.
-/
import Derived.Test.YtgfhhnmhpncnlaaG
namespace Go.Proofs.Ytgfhhnmhpncnlaa
open Go.RowKit
set_option linter.unusedVariables false
set_option linter.unusedSimpArgs false

/-- Bytes as a text. -/
theorem conv_str {w : World} {S : Nat → Prop} {v : Value} {l : List Int} (h : Bs w S v l) : (convert 22 9 v).run Try.prog w = .ok (.string (strOfNums l)) w := by
  obtain ⟨A, c, rfl, h1, h2, h3, h4, h5⟩ := h
  cases A with
  | none =>
    have := h3 rfl
    obtain rfl : l = [] := List.length_eq_zero_iff.1 (by omega)
    exact run_convert_bytes_nil w 22 5 Try.underlying22 Try.underlying5 _ _ 9 Try.underlying9
  | some a =>
    cases l with
    | nil =>
      have hl : (loadCells a 0).run Try.prog w = .ok (([] : List Int).map (Value.int .u8)).toArray w := by
        have := run_loadCells_list (P := Try.prog) w a [] (fun j v hj => by simp at hj)
        simpa using this
      rw [run_convert_bytes_string w 22 9 5 _ _ c Try.underlying22 Try.underlying5 Try.underlying9, List.length_nil, run_bytesToString w _ _ c [] hl]
      rfl
    | cons y m =>
    obtain ⟨p1, p2, p3, p4⟩ := h5 a rfl (by simp)
    obtain ⟨b, o, s⟩ := a
    simp only at p1
    subst p1
    refine run_convert_bytes_arg w 22 5 Try.underlying22 Try.underlying5 b o (y :: m).length c (y :: m) rfl (fun i hi => ?_) 9 Try.underlying9
    have := p4 i hi
    rwa [Addr.add_lit] at this

set_option maxHeartbeats 400000 in
theorem LeftN (w : World) : Calls Try.prog 29 #[.pointer none] w fun e w' => e = .returned (.int .i64 0) ∧ w' = w := by
  go_enter Try.func29, Try.ntmps29
  go_wp2
  go_ret
  exact ⟨rfl, rfl⟩
set_option maxHeartbeats 400000 in
theorem AtN (w : World) : Calls Try.prog 28 #[.pointer none] w fun e w' => e = .returned (.int .i64 0) ∧ w' = w := by
  go_enter Try.func28, Try.ntmps28
  go_wp2
  go_ret
  exact ⟨rfl, rfl⟩
set_option maxHeartbeats 400000 in
theorem WhyN (w : World) : Calls Try.prog 26 #[.pointer none] w fun e w' => e = .returned (.tuple #[.int .i64 0, .int .i64 0]) ∧ w' = w := by
  go_enter Try.func26, Try.ntmps26
  go_wp2
  go_ret2
  exact ⟨rfl, rfl⟩
set_option maxHeartbeats 400000 in
theorem FailN (x : Int) (w : World) : Calls Try.prog 24 #[.pointer none, .int .i64 x] w fun e w' => e = .returned (.tuple #[]) ∧ w' = w := by
  go_enter Try.func24, Try.ntmps24
  go_wp2
  go_end0
  exact ⟨rfl, rfl⟩
set_option maxHeartbeats 400000 in
theorem BytesN (n : Int) (w : World) : Calls Try.prog 20 #[.pointer none, .int .i64 n] w fun e w' => e = .returned (.slice none 0 0) ∧ w' = w := by
  go_enter Try.func20, Try.ntmps20
  go_wp2
  go_ret
  exact ⟨rfl, rfl⟩
set_option maxHeartbeats 400000 in
theorem numN (n : Int) (w : World) : Calls Try.prog 49 #[.pointer none, .int .i64 n] w fun e w' => e = .returned (.int .u32 0) ∧ w' = w := by
  go_enter Try.func49, Try.ntmps49
  go_wp2_with (go_at_call 20; refine (BytesN n _).mono ?_; rintro e w1 ⟨rfl, rfl⟩)
  go_loop [4, 11] (fun n i => i = .int .i64 0 ∧ n = .int .u32 0) (fun _ i => 0)
  case atStart => exact ⟨rfl, rfl⟩
  case round =>
    obtain ⟨rfl, rfl⟩ := hrel
    go_wp2
    go_ret
    exact ⟨rfl, rfl⟩
set_option maxHeartbeats 400000 in
theorem U8N (w : World) : Calls Try.prog 16 #[.pointer none] w fun e w' => e = .returned (.int .u8 0) ∧ w' = w := by
  go_enter Try.func16, Try.ntmps16
  go_wp2_with (go_at_call 49; refine (numN 1 _).mono ?_; rintro e w1 ⟨rfl, rfl⟩)
  go_ret
  exact ⟨rfl, rfl⟩
set_option maxHeartbeats 400000 in
theorem U16N (w : World) : Calls Try.prog 18 #[.pointer none] w fun e w' => e = .returned (.int .u16 0) ∧ w' = w := by
  go_enter Try.func18, Try.ntmps18
  go_wp2_with (go_at_call 49; refine (numN 2 _).mono ?_; rintro e w1 ⟨rfl, rfl⟩)
  go_ret
  exact ⟨rfl, rfl⟩
set_option maxHeartbeats 400000 in
theorem U32N (w : World) : Calls Try.prog 19 #[.pointer none] w fun e w' => e = .returned (.int .u32 0) ∧ w' = w := by
  go_enter Try.func19, Try.ntmps19
  go_wp2_with (go_at_call 49; refine (numN 4 _).mono ?_; rintro e w1 ⟨rfl, rfl⟩)
  go_ret
  exact ⟨rfl, rfl⟩
set_option maxHeartbeats 400000 in
theorem RestN (w : World) : Calls Try.prog 22 #[.pointer none] w fun e w' => e = .returned (.slice none 0 0) ∧ w' = w := by
  go_enter Try.func22, Try.ntmps22
  go_wp2_with (first | (go_at_call 29; refine (LeftN _).mono ?_; rintro e w1 ⟨rfl, rfl⟩) | (go_at_call 20; refine (BytesN 0 _).mono ?_; rintro e w1 ⟨rfl, rfl⟩))
  go_ret
  exact ⟨rfl, rfl⟩
set_option maxHeartbeats 400000 in
theorem DoneN (w : World) : Calls Try.prog 30 #[.pointer none] w fun e w' => e = .returned (.int .i64 0) ∧ w' = w := by
  go_enter Try.func30, Try.ntmps30
  go_wp2_with (first | (go_at_call 29; refine (LeftN _).mono ?_; rintro e w1 ⟨rfl, rfl⟩) | (go_at_call 26; refine (WhyN _).mono ?_; rintro e w1 ⟨rfl, rfl⟩))
  go_ret
  exact ⟨rfl, rfl⟩

theorem str_live : strOfNums ([] ++ putAll 2 [258, 5]) = ⟨#[1, 2, 0, 5]⟩ := by decide +kernel

set_option maxHeartbeats 1600000 in
theorem live_any (w : World) : Calls Try.prog 13 #[] w fun e w' => e = .returned (.bool true) ∧ Fr (fun _ => False) w w' := by
  have hrow : Row (w.alloc (.cells #[.int .u16 258, .int .u16 5] 34)) (fun _ => False) 1 (.slice (some ⟨w.heap.size, 0, none⟩) 2 2) 2 (nums .u16 [258, 5]) := by
    refine ⟨rfl, _, _, rfl, Nat.le_refl _, by decide, (fun h => by cases h), fun a ha _ => ?_⟩
    obtain rfl : (⟨w.heap.size, 0, none⟩ : Addr) = a := by injection ha
    refine ⟨_, _, rfl, fun h => h, by simp, fun j u hj => ?_⟩
    have := new_cells w (nums .u16 [258, 5]) 34 _ rfl j u hj
    rwa [Addr.add_lit] at this
  have hn2 : isN 65536 [258, 5] := by intro x hx; simp at hx; omega
  have hal : Fr (fun _ => False) w (w.alloc (.cells #[.int .u16 258, .int .u16 5] 34)) := (Fr.refl _ w).alloc _
  go_enter Try.func13, Try.ntmps13
  go_wp2_with fail
  refine (Put16_any (l := []) (m := [258, 5]) (Ob.nil _) hrow (fun b hb => by cases hb) hn2 (by decide)).mono ?_
  rintro e w1 ⟨v1, rfl, ho, hn, hf⟩
  have hF1 : Fr (fun _ => False) w w1 := hal.trans hf (fun b hb => by cases hb)
  have hl1 : [] ++ putAll 2 [258, 5] = [1, 2, 0, 5] := by decide +kernel
  rw [hl1] at ho
  clear hrow hf hal hl1 hn
  have hb1 : Bs w1 (fun _ => False) v1 [1, 2, 0, 5] := ho.bs (fun _ _ h => h)
  go_wp2_with fail
  refine (New_any hb1 (by decide)).mono ?_
  rintro e w2 ⟨g2, x2, rfl, hg2, hr2, hq2, hf2⟩
  have hb2 := hb1.fr hf2 (fun _ _ h => h.elim)
  go_wp2_with fail
  have hal2 : Fr (fun _ => False) w2 (w2.alloc (.cells #[.int .u8 0, .int .u8 0, .int .u8 1] 5)) := (Fr.refl _ w2).alloc _
  have hb3 : Bs (w2.alloc (.cells #[.int .u8 0, .int .u8 0, .int .u8 1] 5)) (fun _ => False) (.slice (some ⟨w2.heap.size, 0, none⟩) 3 3) [0, 0, 1] := (Ob.lit w2 [0, 0, 1] (by intro x hx; simp at hx; omega) (by decide)).bs (fun _ _ h => h)
  refine (New_any hb3 (by decide)).mono ?_
  rintro e w3 ⟨g3, x3, rfl, hg3, hr3, hq3, hf3⟩
  have hr2' := (hr2.hasFr hal2 (fun h => h) (fun _ _ h => h.elim)).hasFr hf3 (fun h => h) (fun _ _ h => h.elim)
  have hb1' := (hb2.fr hal2 (fun _ _ h => h.elim)).fr hf3 (fun _ _ h => h.elim)
  have hF3 : Fr (fun _ => False) w w3 := ((hF1.trans hf2 (fun _ h => h.elim)).trans hal2 (fun _ h => h.elim)).trans hf3 (fun _ h => h.elim)
  have hlt2 := (Array.getElem?_eq_some_iff.1 hr2.row).1
  have hne : g2 ≠ g3 := by
    have h2 := hal2.size
    omega
  have hge2 : w.heap.size ≤ g2 := Nat.le_trans hF1.size hg2
  have hge3 : w.heap.size ≤ g3 := Nat.le_trans (hF1.trans hf2 (fun _ h => h.elim)).size (Nat.le_trans hal2.size hg3)
  have hz3 : Bs w3 (fun b => b = g2 ∨ w2.heap.size ≤ b) x2 [1, 2, 0, 5] := (hr2.bytes.old.fr hal2 (fun _ _ h => h.elim)).fr hf3 (fun _ _ h => h.elim)
  have hg3' : w2.heap.size ≤ g3 := Nat.le_trans hal2.size hg3
  have hq3' : Bs w3 (fun b => b < w2.heap.size) x3 [0, 0, 1] := hq3.mono_l rfl (fun b hb => Nat.lt_of_lt_of_le hb hal2.size)
  clear hr2 hb3 hb2 hb1 hf2 hf3 hal2 ho hF1 hg2 hg3 hq3 hq2
  have hcs0 := conv_str hb1'
  rw [show strOfNums [1, 2, 0, 5] = ⟨#[1, 2, 0, 5]⟩ from by decide +kernel] at hcs0
  obtain ⟨A1, c1, rfl, -⟩ := hb1'
  have hcs : (convert 22 9 (.slice A1 4 c1)).run Try.prog w3 = .ok (.string ⟨#[1, 2, 0, 5]⟩) w3 := hcs0
  clear hcs0
  go_wp2_with fail
  refine (U16_any hr2' (by decide) (l := [1, 2]) (r' := ⟨[1, 2, 0, 5], 2, 0, 0⟩) rfl).mono ?_
  rintro e w4 ⟨rfl, hr4, hf4⟩
  rw [show be [1, 2] % 65536 = 258 from by decide]
  have hr3' := hr3.hasFr2 hq3' hf4 (fun h => hne h.symm) (fun b _ h => by subst h; exact hlt2)
  have hq4 : Bs w4 (fun b => b < w2.heap.size) x3 [0, 0, 1] := hq3'.fr hf4 (fun b _ h => by subst h; exact hlt2)
  have hz4 := hz3.fr hf4 (fun b _ h => .inl h)
  clear hcs
  go_wp2_with fail
  refine (U8_any hr4 (by decide) (l := [0]) (r' := ⟨[1, 2, 0, 5], 3, 0, 0⟩) rfl).mono ?_
  rintro e w5 ⟨rfl, hr5, hf5⟩
  rw [show be [0] % 256 = 0 from by decide]
  have hr3'' := hr3'.hasFr2 hq4 hf5 (fun h => hne h.symm) (fun b _ h => by subst h; exact hlt2)
  go_wp2_with fail
  refine (U32_any hr3'' (by decide) (l := []) (r' := ⟨[0, 0, 1], 0, 3, 0⟩) rfl).mono ?_
  rintro e w6 ⟨rfl, hr6, hf6⟩
  rw [show be [] = 0 from by decide]
  have hr7 := hr5.hasFr2 (hz4.fr hf5 (fun b _ h => .inl h)) hf6 hne (fun b _ h => .inr (by subst h; exact hg3'))
  go_wp2_with (first
    | (go_at_call 26; refine (Why_any hr6).mono ?_; rintro e w7 ⟨rfl, n7, rfl⟩)
    | (go_at_call 27; refine (num_any _ _).mono ?_; rintro e w8 ⟨rfl, rfl⟩)
    | (go_at_call 30; refine (Done_any (hr7.drewN _)).mono ?_; rintro e w9 ⟨rfl, n9, rfl⟩; rw [show (⟨[1, 2, 0, 5], 3, 0, 0⟩ : Rd).done = 4 from by decide])
    | (go_at_call 29; refine (Left_any (hr7.drewN _)).mono ?_; rintro e w10 ⟨rfl, n10, rfl⟩; rw [show (((⟨[1, 2, 0, 5], 3, 0, 0⟩ : Rd).p.length : Int) - ((⟨[1, 2, 0, 5], 3, 0, 0⟩ : Rd).at_ : Int)) = 1 from by decide]))
  go_ret
  exact ⟨rfl, (((hF3.trans hf4 (fun b h => .inr (by subst h; exact hge2))).trans hf5 (fun b h => .inr (by subst h; exact hge2))).trans hf6 (fun b h => .inr (by subst h; exact hge3))).drewN _⟩
end Go.Proofs.Ytgfhhnmhpncnlaa
