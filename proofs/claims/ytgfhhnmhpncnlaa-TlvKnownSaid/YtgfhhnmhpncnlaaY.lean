/-
  An append that leaves the old slice readable; what live of the law 05 does. No condition.
-/
import Derived.Test.YtgfhhnmhpncnlaaX
import Derived.Deep.DeepAppendRoom
import Derived.ArgAppend
namespace Go.Proofs.Ytgfhhnmhpncnlaa
open Go.RowKit
set_option linter.unusedVariables false
set_option linter.unusedSimpArgs false

/-- .. and the old slice is read as before. -/
theorem wp_app1K {w : World} {o : Oper} {a : Act} {K : Act → World → Prop} {Q : Exit → Act → World → Prop} (s x : Operand)
    (ho : o.op = .call { callee := .builtin .append, args := #[s, x], argTypes := #[22, 22] })
    {v : Value} {l : List Int} {k : Int} (hs : a.eval s = v) (hown : Ob w v l) (hx : a.eval x = .slice (some ⟨w.heap.size, 0, none⟩) 1 1) (h0 : 0 ≤ k) (h1 : k < 256) (hl : l.length + 1 ≤ 140737488355328)
    (h : ∀ v' w', Ob w' v' (l ++ [k]) → Nx w v v' → FrV v w w' → Bs w' (fun b => w'.heap.size ≤ b) v l → K (a.put o.dst v') w') : Oper.wp Try.prog o a (w.alloc (.cells #[.int .u8 k] 5)) K Q := by
  have hal : Fr (fun _ => False) w (w.alloc (.cells #[.int .u8 k] 5)) := (Fr.refl _ w).alloc _
  have hown2 := hown.fr hal (fun _ _ h => h)
  obtain ⟨i, hi, hz0, hz1, hz2⟩ := info_parts Try.info5
  obtain ⟨A, c, rfl⟩ := hown.slice
  rcases hown2.1.2 with ⟨hv, hn⟩ | ⟨g, cap, cur, hv, q⟩
  · obtain rfl : l = [] := List.eq_nil_of_length_eq_zero hn
    refine wp_app1 s x ho hs hown hx h0 h1 hl (fun v' w' g1 g2 g3 => h v' w' g1 g2 g3 ?_)
    rw [hv]; exact (Ob.nil _).old
  · injection hv with e1 e2 e3
    subst e1 e3
    have hB : isB (l ++ [k]) := hown.2.append (fun x hx => by obtain rfl := List.mem_singleton.1 hx; exact ⟨h0, h1⟩)
    by_cases hroom : l.length + 1 ≤ c
    · refine wp_append_own_spare (P := Try.prog) _ s x 22 ho 0 5 i 1 Try.underlying22 hi hz1 g l.length c (u8s l) hs hown2.1 ⟨w.heap.size, 0, none⟩ 1 1 [.int .u8 k] hx rfl (new_cells w [.int .u8 k] 5 _ rfl) (by intro u hu; obtain rfl := List.mem_singleton.1 hu; rfl) hroom (fun w' g2 g3 => ?_)
      have ob : Ob w' (.slice (some ⟨g, 0, none⟩) (l.length + 1) c) (l ++ [k]) := ⟨by rw [List.length_append, ← u8s_append]; exact g2, hB⟩
      refine h _ w' ob (.inl rfl) (Fr.trans (S := fun b => (Value.slice (some ⟨g, 0, none⟩) l.length c).ownBlock = some b) ((Fr.refl _ w).alloc _) ((Fr.refl (fun b => (Value.slice (some ⟨g, 0, none⟩) l.length c).ownBlock = some b) _).grown g3 (fun b hb => .inl hb)) (fun b hb => .inl hb)) ?_
      have := (ob.old).take (j := l.length) (by simp)
      rw [List.take_left] at this
      exact this
    · obtain ⟨v', w', hrun, r1, r2⟩ := run_append_arg_grows (P := Try.prog) (w.alloc (.cells #[.int .u8 k] 5)) 22 o.type 5 i (.int .u8 0) 1 1 Try.underlying22 hi hz0 hz1 hz2 rfl (by decide) ⟨g, 0, none⟩ l.length c (u8s l) (by rw [u8s_length, Nat.mul_one]) (hown2.1.cells (g := g) rfl) ⟨w.heap.size, 0, none⟩ 1 1 [.int .u8 k] rfl (new_cells w [.int .u8 k] 5 _ rfl) (by omega) (by unfold maxLen; omega) (by omega)
      unfold Oper.wp execOp
      simp only [ho, resolve, invoke, builtin, Sem.run_bind, Sem.run_pure, Result.andThen_ok, List.map_toArray, List.map_cons, List.map_nil, hs, hx, hrun]
      have hfr : Fr (fun _ => False) w w' := Fr.trans (S := fun _ => False) ((Fr.refl _ w).alloc _) ((Fr.refl (fun _ => False) _).grown r2 (fun b hb => by cases hb)) (fun b hb => hb.elim)
      obtain ⟨rl, ⟨hv', hn'⟩ | ⟨g', cap', cur', rfl, hbg, hrest⟩⟩ := r1
      · omega
      · have ob : Ob w' (.slice (some ⟨g', 0, none⟩) (l.length + 1) cap') (l ++ [k]) := ⟨by rw [List.length_append, ← u8s_append]; exact ⟨rl, .inr ⟨g', cap', cur', rfl, Nat.zero_le _, hrest⟩⟩, hB⟩
        refine h _ w' ob (.inr ⟨g', rfl, by simp at hbg; omega⟩) ⟨hfr.os, hfr.tape, hfr.output, hfr.size, fun b hb _ => hfr.block b hb (fun h => h)⟩ ?_
        exact (hown.old.fr hfr (fun _ _ h => h.elim)).mono_l rfl (fun b hb => Nat.le_trans hfr.size hb)
theorem wpList_app1K {w : World} {ops : Array Oper} {rest : List Oper} {o : Oper} {a : Act} {Q : Exit → Act → World → Prop} (hgd : o.guard = none) (s x : Operand)
    (ho : o.op = .call { callee := .builtin .append, args := #[s, x], argTypes := #[22, 22] })
    {v : Value} {l : List Int} {k : Int} (hs : a.eval s = v) (hown : Ob w v l) (hx : a.eval x = .slice (some ⟨w.heap.size, 0, none⟩) 1 1) (h0 : 0 ≤ k) (h1 : k < 256) (hl : l.length + 1 ≤ 140737488355328)
    (h : ∀ v' w', Ob w' v' (l ++ [k]) → Nx w v v' → FrV v w w' → Bs w' (fun b => w'.heap.size ≤ b) v l → wpList Try.prog ops Q rest (a.put o.dst v') w') : wpList Try.prog ops Q (o :: rest) a (w.alloc (.cells #[.int .u8 k] 5)) :=
  wpList_of_wp hgd fun _ hK => wp_app1K s x ho hs hown hx h0 h1 hl (fun v' w' h1 h2 h3 h4 => hK _ _ (h v' w' h1 h2 h3 h4))

/-- A literal list of two pieces. -/
theorem RawsB.two (w : World) (a b : Int) (u1 u2 : Value) (l1 l2 : List Int) (h1 : Bs w (fun _ => False) u1 l1) (h2 : Bs w (fun _ => False) u2 l2) :
    RawsB (w.alloc (.cells #[.int .u8 a, u1, .int .u8 b, u2] 82)) (fun _ => False) (.slice (some ⟨w.heap.size, 0, none⟩) 2 2) [(a, l1), (b, l2)] := by
  have hal : Fr (fun _ => False) w (w.alloc (.cells #[.int .u8 a, u1, .int .u8 b, u2] 82)) := (Fr.refl _ w).alloc _
  refine ⟨[u1, u2], rfl, ⟨rfl, _, _, rfl, Nat.le_refl _, by decide, (fun h => by cases h), fun ad ha _ => ?_⟩, fun j u hj => ?_⟩
  · obtain rfl : (⟨w.heap.size, 0, none⟩ : Addr) = ad := by injection ha
    refine ⟨_, _, rfl, fun h => h, by simp, fun j u hj => ?_⟩
    have := new_cells w [.int .u8 a, u1, .int .u8 b, u2] 82 _ rfl j u hj
    rwa [Addr.add_lit] at this
  · match j, hj with
    | 0, hj => simp at hj; subst hj; exact h1.fr hal (fun _ _ h => h.elim)
    | 1, hj => simp at hj; subst hj; exact h2.fr hal (fun _ _ h => h.elim)
    | j + 2, hj => simp at hj

theorem OR.slice {w : World} {S : Nat → Prop} {v : Value} {rs : List (Int × List Int)} (h : OR w S v rs) : ∃ A c, v = .slice A rs.length c := by
  obtain ⟨us, h1, ⟨_, ⟨rfl, hn⟩ | ⟨g, cap, cur, rfl, _⟩⟩, h3⟩ := h
  · exact ⟨none, 0, by rw [hn]⟩
  · exact ⟨_, _, rfl⟩
set_option maxRecDepth 100000 in
set_option maxHeartbeats 3200000 in
theorem live5_any (w : World) : Calls Try.prog 37 #[] w fun e w' => e = .returned (.bool true) ∧ Below w.heap.size w w' := by
  have hb0 : Bs (w.alloc (.cells #[.int .u8 0, .int .u8 0] 5)) (fun _ => False) (.slice (some ⟨w.heap.size, 0, none⟩) 2 2) [0, 0] := (Ob.lit w [0, 0] (by intro x hx; simp at hx; omega) (by decide)).bs (fun _ _ h => h)
  have hr := RawsB.two _ 0 1 (.slice none 0 0) _ [] [0, 0] ((Ob.nil _).bs (fun _ _ h => h)) hb0
  rw [show (w.alloc (.cells #[.int .u8 0, .int .u8 0] 5)).heap.size = w.heap.size + 1 from by simp] at hr
  have B0 : Below w.heap.size w (w.alloc (.cells #[.int .u8 0, .int .u8 0] 5)) := (Below.refl _ w).alloc (Nat.le_refl _) _
  have B1 := B0.alloc B0.size (.cells #[.int .u8 0, .slice none 0 0, .int .u8 1, .slice (some ⟨w.heap.size, 0, none⟩) 2 2] 82)
  have HJ := Join_any hr (by intro r hr; simp at hr; rcases hr with rfl | rfl <;> decide) (by decide)
  rw [show joi [] [(0, []), (1, [0, 0])] = ([0, 1, 2, 0, 0], 0) from by decide] at HJ
  clear hb0 hr B0
  go_enter Try.func37, Try.ntmps37
  go_wp2_with fail
  refine HJ.mono ?_
  rintro e w1 ⟨v1, rfl, o1, lo1, b1⟩
  have C1 := B1.trans (b1.mono B1.size)
  clear HJ B1 b1
  have HP := Packet_any (o1.bs (S := fun _ => False) (fun _ _ h => h)) (by decide)
  rw [show pkt [0, 1, 2, 0, 0] = ([42, 2, 0, 5, 0, 1, 2, 0, 0], 0) from by decide] at HP
  go_wp2_with fail
  refine HP.mono ?_
  rintro e w2 ⟨v3, rfl, o3, lo3, b3⟩
  have q1 : Bs w2 (fun b => w1.heap.size ≤ b) v1 [0, 1, 2, 0, 0] := o1.old.later b3
  have C2 := C1.trans (b3.mono C1.size)
  clear HP
  go_wp2_with (at_builtin; refine wpList_app1K rfl (.tmp 27) (.tmp 28) rfl rfl o3 rfl (show (0 : Int) ≤ 7 by decide) (show (7 : Int) < 256 by decide) (by decide) ?_; intro v4 w4 o4 n4 f4 k4)
  have k4 : Bs w4 (fun b => w4.heap.size ≤ b) v3 [42, 2, 0, 5, 0, 1, 2, 0, 0] := k4
  have q1 := q1.later (f4.belowB lo3 b3.size)
  have C4 := C2.trans (f4.belowB (lo3.mono C1.size) C2.size)
  have HO := Open_any (o4.bs (S := fun _ => False) (fun _ _ h => h)) (by decide)
  rw [show opn ([42, 2, 0, 5, 0, 1, 2, 0, 0] ++ [7]) = ([0, 1, 2, 0, 0], [7], 0) from by decide] at HO
  have s14 : w1.heap.size ≤ w4.heap.size := Nat.le_trans b3.size f4.size
  clear o1 o3 o4 lo1 lo3 n4 f4
  go_wp2_with fail
  refine HO.mono ?_
  rintro e w5 ⟨v5, v6, rfl, q5, q6, b5⟩
  have q5 : Bs w5 (fun b => w5.heap.size ≤ b) v5 [0, 1, 2, 0, 0] := q5
  have q6 : Bs w5 (fun b => w5.heap.size ≤ b) v6 [7] := q6
  have C5 := C4.trans (b5.mono C4.size)
  have q1 := q1.later (b5.mono s14)
  have k5 := k4.later b5
  have s15 := Nat.le_trans s14 b5.size
  have s45 := b5.size
  have HS := Split_any q5 (by decide)
  rw [show spl ([0, 1, 2, 0, 0] : List Int).length [] [0, 1, 2, 0, 0] = ([(0, []), (1, [0, 0])], 0) from by decide] at HS
  clear HO k4 b5
  go_wp2_with fail
  refine HS.mono ?_
  rintro e w6 ⟨v8, rfl, o8, b6⟩
  have C6 := C5.trans (b6.mono C5.size)
  have q1 := q1.later (b6.mono s15)
  have k6 := k5.later (b6.mono s45)
  have q6 := q6.later b6
  obtain ⟨A8, c8, rfl⟩ := o8.slice
  have hl5 : Bs (w6.alloc (.cells #[.int .u8 42, .int .u8 2, .int .u8 0, .int .u8 5, .int .u8 97] 5)) (fun _ => False) (.slice (some ⟨w6.heap.size, 0, none⟩) 5 5) [42, 2, 0, 5, 97] := (Ob.lit w6 [42, 2, 0, 5, 97] (by intro x hx; simp at hx; omega) (by decide)).bs (fun _ _ h => h)
  have HO := Open_any hl5 (by decide)
  rw [show opn [42, 2, 0, 5, 97] = ([], [], 52) from by decide] at HO
  have bA : Below w6.heap.size w6 (w6.alloc (.cells #[.int .u8 42, .int .u8 2, .int .u8 0, .int .u8 5, .int .u8 97] 5)) := (Below.refl _ _).alloc (Nat.le_refl _) _
  have s16 := Nat.le_trans s15 b6.size
  have s46 := Nat.le_trans s45 b6.size
  have s56 := b6.size
  clear HS o8 b6 hl5 q5
  go_wp2_with fail
  refine HO.mono ?_
  rintro e w7 ⟨v11, v12, rfl, -, -, b7⟩
  have b67 := bA.trans (b7.mono bA.size)
  have C7 := C6.trans (b67.mono C6.size)
  have q1 := q1.later (b67.mono s16)
  have k7 := k6.later (b67.mono s46)
  have q6 := q6.later (b67.mono s56)
  have h1 := conv_str q1
  have h2 := conv_str k7
  rw [show strOfNums [0, 1, 2, 0, 0] = ⟨#[0, 1, 2, 0, 0]⟩ from by decide +kernel] at h1
  rw [show strOfNums [42, 2, 0, 5, 0, 1, 2, 0, 0] = ⟨#[42, 2, 0, 5, 0, 1, 2, 0, 0]⟩ from by decide +kernel] at h2
  obtain ⟨A6, c6, rfl, -⟩ := id q6
  have hadd : ∀ W : World, (Op.stringOp .add (⟨#[42, 2, 0, 5]⟩ : ByteArray) (⟨#[0, 1, 2, 0, 0]⟩ : ByteArray)).run Try.prog W = .ok (.string ⟨#[42, 2, 0, 5, 0, 1, 2, 0, 0]⟩) W := fun W => by
    have := run_str_add [42, 2, 0, 5] [0, 1, 2, 0, 0] (by decide) W
    rw [show strOfNums [42, 2, 0, 5] = ⟨#[42, 2, 0, 5]⟩ from by decide +kernel, show strOfNums [0, 1, 2, 0, 0] = ⟨#[0, 1, 2, 0, 0]⟩ from by decide +kernel, show strOfNums ([42, 2, 0, 5] ++ [0, 1, 2, 0, 0]) = ⟨#[42, 2, 0, 5, 0, 1, 2, 0, 0]⟩ from by decide +kernel] at this
    exact this
  clear HO b7 q1 k6 k7 q6 k5
  go_wp2_with (go_at_call 42; refine (num5_any _ _).mono ?_; rintro e w8 ⟨rfl, rfl⟩)
  go_ret
  exact ⟨rfl, C7⟩
end Go.Proofs.Ytgfhhnmhpncnlaa
