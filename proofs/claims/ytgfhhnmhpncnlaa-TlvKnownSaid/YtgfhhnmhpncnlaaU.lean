/-
  Pieces: lists of them read, Join. Condition: what comes in is a list of pieces, of less than 2^47 bytes together.
-/
import Derived.Test.YtgfhhnmhpncnlaaT
namespace Go.Proofs.Ytgfhhnmhpncnlaa
open Go.RowKit
set_option linter.unusedVariables false
set_option linter.unusedSimpArgs false

/-- The cells of pieces. -/
def rawCs (rs : List (Int × List Int)) (us : List Value) : List (List Value) := List.zipWith (fun r u => [Value.int .u8 r.1, u]) rs us
/-- Pieces at x: their bodies are read outside of S. -/
def RawsB (w : World) (S : Nat → Prop) (x : Value) (rs : List (Int × List Int)) : Prop :=
  ∃ us, us.length = rs.length ∧ Row w S 2 x rs.length (rawCs rs us).flatten ∧ ∀ j u, us[j]? = some u → Bs w S u (rs.getD j (0, [])).2
theorem RawsB.out {w : World} {S : Nat → Prop} {x : Value} {rs : List (Int × List Int)} (h : RawsB w S x rs) : RawsB w (fun b => w.heap.size ≤ b) x rs := by
  obtain ⟨us, hl, hr, hu⟩ := h
  exact ⟨us, hl, hr.out, fun j u hj => (hu j u hj).out⟩
theorem RawsB.later {B : Nat} {w w' : World} {x : Value} {rs : List (Int × List Int)} (h : RawsB w (fun b => B ≤ b) x rs) (hb : Below B w w') : RawsB w' (fun b => B ≤ b) x rs := by
  obtain ⟨us, hl, hr, hu⟩ := h
  exact ⟨us, hl, hr.later hb, fun j u hj => (hu j u hj).later hb⟩
theorem RawsB.at_ {w : World} {S : Nat → Prop} {x : Value} {rs : List (Int × List Int)} (h : RawsB w S x rs) : ∃ A c, x = .slice A rs.length c ∧ rs.length ≤ 9223372036854775807 ∧ ∀ j (hj : j < rs.length), ∃ b o u, A = some ⟨b, o, none⟩ ∧ ¬ S b ∧ b < w.heap.size ∧ w.cell? ⟨b, o + j * 2, none⟩ = some (.int .u8 (rs[j]).1) ∧ w.cell? ⟨b, o + j * 2 + 1, none⟩ = some u ∧ Bs w S u (rs[j]).2 := by
  obtain ⟨us, hl, hr, hu⟩ := h
  obtain ⟨A, c, rfl, hz1, hz2⟩ := hr.head
  refine ⟨A, c, rfl, by omega, fun j hj => ?_⟩
  obtain ⟨b, o, rfl, p1, p2, p3⟩ := hr.at_ (by omega)
  have hz : (rawCs rs us).length = rs.length := by simp [rawCs, hl]
  have hall : ∀ c ∈ rawCs rs us, c.length = 2 := by
    intro c hc
    obtain ⟨i, hi, rfl⟩ := List.mem_iff_getElem.1 hc
    simp [rawCs]
  have hju : j < us.length := by omega
  have hg : ∀ i, i < 2 → (rawCs rs us).flatten[j * 2 + i]? = [Value.int .u8 (rs[j]).1, us[j]][i]? := fun i hi => by
    rw [flat_get hall (by omega) hi]; simp [rawCs]
  refine ⟨b, o, us[j], rfl, p1, p2, ?_, (by have := p3 _ _ (hg 1 (by decide)); rwa [← Nat.add_assoc] at this), ?_⟩
  · have := p3 _ _ (hg 0 (by decide)); rwa [Nat.add_zero] at this
  · have := hu j us[j] (List.getElem?_eq_getElem hju)
    rwa [List.getD_eq_getElem?_getD, List.getElem?_eq_getElem hj] at this
theorem Try.info82 : (Try.prog.info? 82).map (fun i => (i.zero.map (·.cells.size), i.size, i.bytes)) = some (some 2, 2, 32) := by kernel_rfl
def enc (r : Int × List Int) : List Int := if r.1 = 0 then [0] else r.1 :: (r.2.length : Int) :: r.2
def joi (acc : List Int) : List (Int × List Int) → List Int × Int
  | [] => (acc, 0)
  | r :: rs => if r.1 = 0 ∧ 0 < r.2.length then ([], 2) else if 255 < r.2.length then ([], 1) else joi (acc ++ enc r) rs
def tot (rs : List (Int × List Int)) : Nat := (rs.map fun r => r.2.length + 2).sum
theorem RowsB.one' {w : World} {B : Nat} {u : Value} {l : List Int} (h : Bs w (fun b => B ≤ b) u l) : RowsB (w.alloc (.cells #[u] 22)) (fun b => B ≤ b ∧ b ≠ w.heap.size) (.slice (some ⟨w.heap.size, 0, none⟩) 1 1) [l] := by
  have hal : Fr (fun _ => False) w (w.alloc (.cells #[u] 22)) := (Fr.refl _ w).alloc _
  refine ⟨[u], ⟨rfl, _, _, rfl, Nat.le_refl _, by decide, (fun h => by cases h), fun a ha _ => ?_⟩, fun j u' hj => ?_⟩
  · obtain rfl : (⟨w.heap.size, 0, none⟩ : Addr) = a := by injection ha
    refine ⟨_, _, rfl, fun h => h.2 rfl, by simp, fun j u2 hj => ?_⟩
    have := new_cells w [u] 22 _ rfl j _ hj
    rwa [Addr.add_lit] at this
  · cases j with
    | zero => simp at hj; subst hj; exact (h.fr hal (fun _ _ h => h.elim)).mono_l rfl (fun b hb => hb.1)
    | succ j => simp at hj
theorem RowsB.fr {w w' : World} {S S' : Nat → Prop} {x : Value} {ms : List (List Int)} (h : RowsB w S x ms) (hf : Fr S' w w') (hS : ∀ b, S' b → S b) : RowsB w' S x ms := by
  obtain ⟨vs, hr, hv⟩ := h
  exact ⟨vs, hr.fr hf (fun b _ hb => hS b hb), fun j u hj => (hv j u hj).fr hf (fun b _ hb => hS b hb)⟩

theorem nx_ne {w : World} {v v' : Value} {k : Nat} (h : Nx w v v') (hv : ∀ b, v.ownBlock = some b → b ≠ k) (hk : k < w.heap.size) : ∀ b, v'.ownBlock = some b → b ≠ k := fun b hb => by
  rcases h with e | ⟨c, e, hc⟩
  · exact hv b (e ▸ hb)
  · rw [e] at hb; cases hb; omega
set_option maxRecDepth 100000 in
set_option maxHeartbeats 6400000 in
theorem Join_any {w : World} {S : Nat → Prop} {x : Value} {rs : List (Int × List Int)} (h : RawsB w S x rs) (hty : ∀ r ∈ rs, 0 ≤ r.1 ∧ r.1 < 256) (hl : tot rs ≤ 140737488355000) :
    Calls Try.prog 44 #[x] w fun e w' => ∃ v', e = .returned (.tuple #[v', .int .i64 (joi [] rs).2]) ∧ Ob w' v' (joi [] rs).1 ∧ Lo w.heap.size v' ∧ Below w.heap.size w w' := by
  have g := h.out
  obtain ⟨A, c, rfl, hmx, -⟩ := h.at_
  clear h
  have hty := Lib.hid hty
  have htot := Lib.hid hl
  clear hl
  go_enter Try.func44, Try.ntmps44
  go_wp2
  go_loopw [4, 9] (fun u i wr => ∃ (j : Nat) (acc : List Int), j ≤ rs.length ∧ i = .int .i64 j ∧ Hid (joi [] rs = joi acc (rs.drop j)) ∧ acc.length + tot (rs.drop j) ≤ 140737488355000 ∧ Ob wr u acc ∧ Lo w.heap.size u ∧ Below w.heap.size w wr) (fun _ i _ => rs.length - (intOf i).toNat)
  case atStart => exact ⟨0, [], Nat.zero_le _, rfl, Lib.hid rfl, by simpa using htot.out, Ob.nil _, Lo.nil _, Below.refl _ _⟩
  case round =>
    obtain ⟨j, acc, hj, rfl, hs, hb, ho, hlo, bel⟩ := hrel
    by_cases hlt : j < rs.length
    · obtain ⟨A', c', hA, -, hat⟩ := (g.later bel).at_
      obtain ⟨rfl, -, rfl⟩ : A = A' ∧ rs.length = rs.length ∧ c = c' := by injection hA with a b c; exact ⟨a, b, c⟩
      obtain ⟨b, o, u, rfl, p1, p2, p3, p4, p5⟩ := hat j hlt
      have hdr : rs.drop j = rs[j] :: rs.drop (j + 1) := List.drop_eq_getElem_cons hlt
      have hr := hty.out _ (List.getElem_mem hlt)
      rw [hdr] at hs hb
      generalize rs[j] = r at *
      obtain ⟨ty, l⟩ := r
      obtain ⟨A2, c2, rfl, -⟩ := id p5
      have hb2 : acc.length + (l.length + 2) + tot (rs.drop (j + 1)) ≤ 140737488355000 := by unfold tot at hb ⊢; simp only [List.map_cons, List.sum_cons] at hb; omega
      clear hat hb hA hdr
      have hal0 : Fr (fun _ => False) wr (wr.alloc (.cells #[.int .u8 ty, .slice A2 l.length c2] 82)) := (Fr.refl _ wr).alloc _
      have z0 : (wr.alloc (.cells #[.int .u8 ty, .slice A2 l.length c2] 82)).cell? ⟨wr.heap.size, 0, none⟩ = some (.int .u8 ty) := (row_cell (heap_alloc_new wr _)).trans rfl
      have z1 : (wr.alloc (.cells #[.int .u8 ty, .slice A2 l.length c2] 82)).cell? ⟨wr.heap.size, 1, none⟩ = some (.slice A2 l.length c2) := (row_cell (heap_alloc_new wr _)).trans rfl
      have o0 := ho.fr hal0 (fun _ _ h => h)
      have bel0 := bel.alloc bel.size (.cells #[.int .u8 ty, .slice A2 l.length c2] 82)
      have q0 := p5.fr hal0 (fun _ _ h => h.elim)
      have hsz0 : (wr.alloc (.cells #[.int .u8 ty, .slice A2 l.length c2] 82)).heap.size = wr.heap.size + 1 := by simp
      have hlt0 := ho.lt
      have hu0 : ∀ b, u4.ownBlock = some b → b ≠ wr.heap.size := fun b hb h => by have := hlt0 b hb; omega
      have hu0 := Lib.hid hu0
      have hsz0 := Lib.hid hsz0
      have z0 := Lib.hid z0
      have z1 := Lib.hid z1
      have hlt0 := Lib.hid hlt0
      have hlo := Lib.hid hlo
      by_cases k0 : ty = 0
      · subst k0
        have k0 : (0 : Int) = 0 := rfl
        clear k0
        by_cases kl : 0 < l.length
        · have kl1 : decide (0 < l.length) = true := by simp; omega
          go_wp2_with fail
          go_ret2
          rw [hs.out, joi, if_pos ⟨rfl, kl⟩]
          exact ⟨_, rfl, Ob.nil _, Lo.nil _, bel0⟩
        · have kl1 : decide (0 < l.length) = false := decide_eq_false (by omega)
          have kl2 : decide (255 < l.length) = false := decide_eq_false (by omega)
          have kl := Lib.hid kl
          have hlen9 : acc.length + 1 ≤ 140737488355328 := by omega
          go_wp2_with (at_builtin; go_loud (refine wpList_app1 rfl (.tmp 28) (.tmp 31) rfl rfl o0 (congrArg (fun n => Value.slice (some ⟨n, 0, none⟩) 1 1) hsz0.out.symm) (show (0 : Int) ≤ 0 by decide) (show (0 : Int) < 256 by decide) (by omega) ?_); intro v1 w1 o1 n1 f1; have y0 := f1.cell z0.out (fun hb => hu0.out _ hb rfl))
          go_roundw
          case rel => exact ⟨j + 1, acc ++ enc (0, l), by omega, by go_num, Lib.hid (by have := kl.out; rw [hs.out, joi, if_neg (fun h => kl.out h.2), if_neg (by simp only; omega)]), by simp [enc]; omega, by simpa [enc] using o1, hlo.out.next n1 bel0.size, bel0.trans (f1.belowB hlo.out bel0.size)⟩
          case measure => simp [intOf]; omega
      · have kb : (ty == 0) = false := by simp [k0]
        by_cases kl : 255 < l.length
        · have kl2 : decide (255 < l.length) = true := by simp; omega
          go_wp2_with fail
          go_ret2
          rw [hs.out, joi, if_neg (by simp [k0]), if_pos kl]
          exact ⟨_, rfl, Ob.nil _, Lo.nil _, bel0⟩
        · have kl2 : decide (255 < l.length) = false := by simp; omega
          go_wp2_with (at_builtin; refine wpList_app1 rfl (.tmp 28) (.tmp 31) rfl rfl o0 (congrArg (fun n => Value.slice (some ⟨n, 0, none⟩) 1 1) hsz0.out.symm) hr.1 hr.2 (by omega) ?_; intro v1 w1 o1 n1 f1; have y0 := f1.cell z0.out (fun hb => hu0.out _ hb rfl))
          have hd1 : Fr (fun _ => False) w1 w1.drew := (Fr.refl _ w1).drewN 1
          have hk : ∀ b, v1.ownBlock = some b → b ≠ wr.heap.size := nx_ne n1 hu0.out (by rw [hsz0.out]; omega)
          have hc_ := hd1.cell (f1.cell z1.out (fun hb => hu0.out _ hb rfl)) (fun h => h)
          have q_ := (q0.fr f1 (fun b _ hb => hlo.out b hb)).fr hd1 (fun _ _ h => h.elim)
          have o_ := o1.fr hd1 (fun _ _ h => h)
          have lo_ := hlo.out.next n1 bel0.size
          have bel_ : Below w.heap.size w w1.drew := (bel0.trans (f1.belowB hlo.out bel0.size)).drew
          have hkd : wr.heap.size < w1.drew.heap.size := by have := f1.size; rw [hsz0.out] at this; show _ < w1.heap.size; omega
          have hv1 := o_.lt
          have hmod : IntKind.u8.wrap (l.length : Int) = l.length := by rw [IntKind.wrap_u8]; omega
          clear hsz0 hd1 f1 o1 q0 o0 n1 z0 z1 hal0 bel0 y0 hu0 hlt0 hlo ho bel p5 p4 p3
          refine wp_region_held_drew (S := (fun W => W.cell? ⟨wr.heap.size, 1, none⟩ = some (.slice A2 l.length c2))) (by kernel_rfl) (hc_) (fun hHeld => ?_)
          generalize w1.drew = wd at *
          refine wpAnyH_take (i := 0) (oi := { dst := (some 36), op := (Op.move (Operand.tmp 4)), type := 22, pos := "tlv.go:52", after := #[], guard := none }) (v := ?_) rfl (by kernel_rfl) (by kernel_rfl) (by kernel_rfl) (fun _ _ _ h => h) (Or.inl ⟨by rfl, ?_⟩) (by assumption) ?_
          rotate_left
          · intro w hSw
            (try dsimp only at hSw)
            go_simp
            with_reducible rfl
          (try simp only [Act.put, List.setIfInBounds_toArray, List.set_cons_zero, List.set_cons_succ])
          refine wpAnyH_take (i := 1) (oi := { dst := (some 37), op := (Op.fieldAddr 82 (Operand.tmp 6) 1), type := 0, pos := "tlv.go:52", after := #[], guard := none }) (v := ?_) rfl (by kernel_rfl) (by kernel_rfl) (by kernel_rfl) (fun _ _ _ h => h) (Or.inl ⟨by rfl, ?_⟩) (by assumption) ?_
          rotate_left
          · intro w hSw
            (try dsimp only at hSw)
            go_simp
            with_reducible rfl
          (try simp only [Act.put, List.setIfInBounds_toArray, List.set_cons_zero, List.set_cons_succ])
          refine wpAnyH_take (i := 2) (oi := { dst := (some 38), op := (Op.load 22 (Operand.tmp 37)), type := 22, pos := "tlv.go:52", after := #[{ on := 1, ground := Ground.data }], guard := none }) (v := ?_) rfl (by kernel_rfl) (by kernel_rfl) (by kernel_rfl) (fun _ _ _ h => h) (Or.inl ⟨by rfl, ?_⟩) (by assumption) ?_
          rotate_left
          · intro w hSw
            (try dsimp only at hSw)
            go_simp
            with_reducible rfl
          (try simp only [Act.put, List.setIfInBounds_toArray, List.set_cons_zero, List.set_cons_succ])
          refine wpAnyH_take (i := 3) (oi := { dst := (some 39), op := (Op.call { callee := (Callee.builtin Builtin.len), args := #[(Operand.tmp 38)], argTypes := #[22] }), type := 3, pos := "tlv.go:52", after := #[{ on := 2, ground := Ground.data }], guard := none }) (v := ?_) rfl (by kernel_rfl) (by kernel_rfl) (by kernel_rfl) (fun _ _ _ h => h) (Or.inl ⟨by rfl, ?_⟩) (by assumption) ?_
          rotate_left
          · intro w hSw
            (try dsimp only at hSw)
            go_simp
            with_reducible rfl
          (try simp only [Act.put, List.setIfInBounds_toArray, List.set_cons_zero, List.set_cons_succ])
          refine wpAnyH_take (i := 4) (oi := { dst := (some 40), op := (Op.convert 3 5 (Operand.tmp 39)), type := 5, pos := "tlv.go:52", after := #[{ on := 3, ground := Ground.data }], guard := none }) (v := ?_) rfl (by kernel_rfl) (by kernel_rfl) (by kernel_rfl) (fun _ _ _ h => h) (Or.inl ⟨by rfl, ?_⟩) (by assumption) ?_
          rotate_left
          · intro w hSw
            (try dsimp only at hSw)
            go_simp
            with_reducible rfl
          (try simp only [Act.put, List.setIfInBounds_toArray, List.set_cons_zero, List.set_cons_succ])
          refine wpAnyH_take (i := 7) (oi := { dst := (some 43), op := (Op.fieldAddr 82 (Operand.tmp 6) 1), type := 0, pos := "tlv.go:52", after := #[], guard := none }) (v := ?_) rfl (by kernel_rfl) (by kernel_rfl) (by kernel_rfl) (fun _ _ _ h => h) (Or.inl ⟨by rfl, ?_⟩) (by assumption) ?_
          rotate_left
          · intro w hSw
            (try dsimp only at hSw)
            go_simp
            with_reducible rfl
          (try simp only [Act.put, List.setIfInBounds_toArray, List.set_cons_zero, List.set_cons_succ])
          refine wpAnyH_take (i := 8) (oi := { dst := (some 44), op := (Op.load 22 (Operand.tmp 43)), type := 22, pos := "tlv.go:52", after := #[{ on := 7, ground := Ground.data }], guard := none }) (v := ?_) rfl (by kernel_rfl) (by kernel_rfl) (by kernel_rfl) (fun _ _ _ h => h) (Or.inl ⟨by rfl, ?_⟩) (by assumption) ?_
          rotate_left
          · intro w hSw
            (try dsimp only at hSw)
            go_simp
            with_reducible rfl
          (try simp only [Act.put, List.setIfInBounds_toArray, List.set_cons_zero, List.set_cons_succ])
          refine wpAnyH_ready (rs := [5, 9]) (by kernel_rfl) (by simp) ?_
          refine AllReadyH.cons (o := { dst := (some 41), op := (Op.buildSlice 22 1 #[(0, (Operand.tmp 40))]), type := 22, pos := "tlv.go:52", after := #[{ on := 4, ground := Ground.data }], guard := none }) rfl (fun K hK => ?_) (AllReadyH.cons (o := { dst := (some 45), op := (Op.buildSlice 59 1 #[(0, (Operand.tmp 44))]), type := 59, pos := "tlv.go:52", after := #[{ on := 8, ground := Ground.data }], guard := none }) rfl (fun K hK => ?_) AllReadyH.nil)
          · go_simp
            have hal_ : Fr (fun _ => False) (wd) (World.alloc (wd) (.cells #[.int .u8 (l.length : Int)] 5)) := (Fr.refl _ _).alloc _
            have b_ : Bs (World.alloc (wd) (.cells #[.int .u8 (l.length : Int)] 5)) (fun b => b ≠ (wd).heap.size) (.slice (some ⟨(wd).heap.size, 0, none⟩) 1 1) [(l.length : Int)] := (Ob.lit (wd) [(l.length : Int)] (by intro x hx; simp at hx; omega) (by simp)).bs (fun b hb h => h (Option.some.inj hb).symm)
            have o_ := o_.fr hal_ (fun _ _ h => h)
            have hc_ := hal_.cell hc_ (fun h => h)
            have q1_ := q_
            have q_ := q_.fr hal_ (fun _ _ h => h.elim)
            have bel_ := bel_.alloc bel_.size (.cells #[.int .u8 (l.length : Int)] 5)
            refine hK.out _ _ ?_ (fun hHeld => ?_)
            · exact hc_
            clear hK K
            (try simp only [Act.put, List.setIfInBounds_toArray, List.set_cons_zero, List.set_cons_succ])
            refine wpAnyH_ready (rs := [6, 9]) (by kernel_rfl) (by simp) ?_
            refine AllReadyH.cons (o := { dst := (some 42), op := (Op.call { callee := (Callee.value (Operand.func 34)), args := #[(Operand.tmp 36), (Operand.tmp 41)], argTypes := #[22, 22] }), type := 22, pos := "tlv.go:52", after := #[{ on := 0, ground := Ground.data }, { on := 5, ground := Ground.data }], guard := none }) rfl (fun K hK => ?_) (AllReadyH.cons (o := { dst := (some 45), op := (Op.buildSlice 59 1 #[(0, (Operand.tmp 44))]), type := 59, pos := "tlv.go:52", after := #[{ on := 8, ground := Ground.data }], guard := none }) rfl (fun K hK => ?_) AllReadyH.nil)
            · go_simp
              refine (Put8_any o_ b_ (by simp; omega)).mono ?_
              rintro e w6 ⟨v6, rfl, o6, n6, f6⟩
              have lo6 := lo_.next n6 bel_.size
              have hk6 : ∀ b, v6.ownBlock = some b → b ≠ wr.heap.size := nx_ne n6 hk (by have := hkd; simp; omega)
              have hc_ := f6.cell hc_ (fun hb => hk _ hb rfl)
              have q_ := q_.fr f6 (fun b _ hb => lo_ b hb)
              have bel_ := bel_.trans (f6.belowB lo_ bel_.size)
              refine hK.out _ _ ?_ (fun hHeld => ?_)
              · exact hc_
              clear hK K
              (try simp only [Act.put, List.setIfInBounds_toArray, List.set_cons_zero, List.set_cons_succ])
              refine wpAnyH_ready (rs := [9]) (by kernel_rfl) (by simp) ?_
              refine AllReadyH.cons (o := { dst := (some 45), op := (Op.buildSlice 59 1 #[(0, (Operand.tmp 44))]), type := 59, pos := "tlv.go:52", after := #[{ on := 8, ground := Ground.data }], guard := none }) rfl (fun K hK => ?_) AllReadyH.nil
              go_simp
              have hal_ : Fr (fun _ => False) (w6) (World.alloc (w6) (.cells #[.slice A2 l.length c2] 22)) := (Fr.refl _ _).alloc _
              have r_ := RowsB.one' q_
              have hx_ := o6.lt
              have o6 := o6.fr hal_ (fun _ _ h => h)
              have hc_ := hal_.cell hc_ (fun h => h)
              have q1_ := q_
              have q_ := q_.fr hal_ (fun _ _ h => h.elim)
              have bel_ := bel_.alloc bel_.size (.cells #[.slice A2 l.length c2] 22)
              refine hK.out _ _ ?_ (fun hHeld => ?_)
              · exact hc_
              clear hK K
              (try simp only [Act.put, List.setIfInBounds_toArray, List.set_cons_zero, List.set_cons_succ])
              refine wpAnyH_ready (rs := [10]) (by kernel_rfl) (by simp) ?_
              refine AllReadyH.cons (o := { dst := (some 46), op := (Op.call { callee := (Callee.value (Operand.func 36)), args := #[(Operand.tmp 42), (Operand.tmp 45)], argTypes := #[22, 59] }), type := 22, pos := "tlv.go:52", after := #[{ on := 6, ground := Ground.data }, { on := 9, ground := Ground.data }, { on := 6, ground := Ground.chain }], guard := none }) rfl (fun K hK => ?_) AllReadyH.nil
              go_simp
              refine (PutBytes_any o6 r_ (fun b hb => ⟨lo6 b hb, fun h => by have := hx_ b hb; omega⟩) (by simp; omega)).mono ?_
              rintro e w10 ⟨v10, rfl, o10, n10, f10⟩
              have hc_ := f10.cell hc_ (fun hb => hk6 _ hb rfl)
              have lo10 := lo6.next n10 bel_.size
              have bel10 := bel_.trans (f10.belowB lo6 bel_.size)
              refine hK.out _ _ ?_ (fun hHeld => ?_)
              · exact hc_
              clear hK K
              (try simp only [Act.put, List.setIfInBounds_toArray, List.set_cons_zero, List.set_cons_succ])
              refine wpAnyH_take (i := 11) (oi := { dst := (some 4), op := (Op.assign (Operand.tmp 46)), type := 22, pos := "tlv.go:52", after := #[{ on := 10, ground := Ground.data }, { on := 10, ground := Ground.chain }, { on := 0, ground := Ground.phase }, { on := 1, ground := Ground.phase }, { on := 2, ground := Ground.phase }, { on := 3, ground := Ground.phase }, { on := 4, ground := Ground.phase }, { on := 5, ground := Ground.phase }, { on := 6, ground := Ground.phase }, { on := 7, ground := Ground.phase }, { on := 8, ground := Ground.phase }, { on := 9, ground := Ground.phase }, { on := 10, ground := Ground.phase }], guard := none }) (v := ?_) rfl (by kernel_rfl) (by kernel_rfl) (by kernel_rfl) (fun _ _ _ h => h) (Or.inl ⟨by rfl, ?_⟩) (by assumption) ?_
              rotate_left
              · intro w hSw
                (try dsimp only at hSw)
                go_simp
                with_reducible rfl
              (try simp only [Act.put, List.setIfInBounds_toArray, List.set_cons_zero, List.set_cons_succ])
              refine wpAnyH_done (by kernel_rfl) ?_ _
              go_wp2_with fail
              go_roundw
              case rel => exact ⟨j + 1, acc ++ enc (ty, l), by omega, by go_num, Lib.hid (by rw [hs.out, joi, if_neg (by simp [k0]), if_neg (by omega)]), by simp [enc, k0]; omega, by simpa [enc, k0] using o10, lo10, bel10⟩
              case measure => simp [intOf]; omega
            · go_simp
              have hal_ : Fr (fun _ => False) (wd.alloc (.cells #[.int .u8 (l.length : Int)] 5)) (World.alloc (wd.alloc (.cells #[.int .u8 (l.length : Int)] 5)) (.cells #[.slice A2 l.length c2] 22)) := (Fr.refl _ _).alloc _
              have r_ := RowsB.one' q_
              rw [show (wd.alloc (.cells #[.int .u8 (l.length : Int)] 5)).heap.size = wd.heap.size + 1 from by simp] at r_
              have hne_ : ∀ b, v1.ownBlock = some b → b ≠ wd.heap.size + 1 := fun b hb h => by have := hv1 b hb; omega
              have o_ := o_.fr hal_ (fun _ _ h => h)
              have hc_ := hal_.cell hc_ (fun h => h)
              have q1_ := q_
              have q_ := q_.fr hal_ (fun _ _ h => h.elim)
              have bel_ := bel_.alloc bel_.size (.cells #[.slice A2 l.length c2] 22)
              have b_ := b_.fr hal_ (fun _ _ h => h.elim)
              refine hK.out _ _ ?_ (fun hHeld => ?_)
              · exact hc_
              clear hK K
              (try simp only [Act.put, List.setIfInBounds_toArray, List.set_cons_zero, List.set_cons_succ])
              refine wpAnyH_ready (rs := [6]) (by kernel_rfl) (by simp) ?_
              refine AllReadyH.cons (o := { dst := (some 42), op := (Op.call { callee := (Callee.value (Operand.func 34)), args := #[(Operand.tmp 36), (Operand.tmp 41)], argTypes := #[22, 22] }), type := 22, pos := "tlv.go:52", after := #[{ on := 0, ground := Ground.data }, { on := 5, ground := Ground.data }], guard := none }) rfl (fun K hK => ?_) AllReadyH.nil
              go_simp
              refine (Put8_any o_ b_ (by simp; omega)).mono ?_
              rintro e w6 ⟨v6, rfl, o6, n6, f6⟩
              have lo6 := lo_.next n6 bel_.size
              have hk6 : ∀ b, v6.ownBlock = some b → b ≠ wr.heap.size := nx_ne n6 hk (by have := hkd; simp; omega)
              have r_ := r_.fr f6 (fun b hb => ⟨lo_ b hb, hne_ b hb⟩)
              have hc_ := f6.cell hc_ (fun hb => hk _ hb rfl)
              have q_ := q_.fr f6 (fun b _ hb => lo_ b hb)
              have bel_ := bel_.trans (f6.belowB lo_ bel_.size)
              refine hK.out _ _ ?_ (fun hHeld => ?_)
              · exact hc_
              clear hK K
              (try simp only [Act.put, List.setIfInBounds_toArray, List.set_cons_zero, List.set_cons_succ])
              refine wpAnyH_ready (rs := [10]) (by kernel_rfl) (by simp) ?_
              refine AllReadyH.cons (o := { dst := (some 46), op := (Op.call { callee := (Callee.value (Operand.func 36)), args := #[(Operand.tmp 42), (Operand.tmp 45)], argTypes := #[22, 59] }), type := 22, pos := "tlv.go:52", after := #[{ on := 6, ground := Ground.data }, { on := 9, ground := Ground.data }, { on := 6, ground := Ground.chain }], guard := none }) rfl (fun K hK => ?_) AllReadyH.nil
              go_simp
              refine (PutBytes_any o6 r_ (fun b hb => ⟨lo6 b hb, nx_ne n6 hne_ (by simp <;> omega) b hb⟩) (by simp; omega)).mono ?_
              rintro e w10 ⟨v10, rfl, o10, n10, f10⟩
              have hc_ := f10.cell hc_ (fun hb => hk6 _ hb rfl)
              have lo10 := lo6.next n10 bel_.size
              have bel10 := bel_.trans (f10.belowB lo6 bel_.size)
              refine hK.out _ _ ?_ (fun hHeld => ?_)
              · exact hc_
              clear hK K
              (try simp only [Act.put, List.setIfInBounds_toArray, List.set_cons_zero, List.set_cons_succ])
              refine wpAnyH_take (i := 11) (oi := { dst := (some 4), op := (Op.assign (Operand.tmp 46)), type := 22, pos := "tlv.go:52", after := #[{ on := 10, ground := Ground.data }, { on := 10, ground := Ground.chain }, { on := 0, ground := Ground.phase }, { on := 1, ground := Ground.phase }, { on := 2, ground := Ground.phase }, { on := 3, ground := Ground.phase }, { on := 4, ground := Ground.phase }, { on := 5, ground := Ground.phase }, { on := 6, ground := Ground.phase }, { on := 7, ground := Ground.phase }, { on := 8, ground := Ground.phase }, { on := 9, ground := Ground.phase }, { on := 10, ground := Ground.phase }], guard := none }) (v := ?_) rfl (by kernel_rfl) (by kernel_rfl) (by kernel_rfl) (fun _ _ _ h => h) (Or.inl ⟨by rfl, ?_⟩) (by assumption) ?_
              rotate_left
              · intro w hSw
                (try dsimp only at hSw)
                go_simp
                with_reducible rfl
              (try simp only [Act.put, List.setIfInBounds_toArray, List.set_cons_zero, List.set_cons_succ])
              refine wpAnyH_done (by kernel_rfl) ?_ _
              go_wp2_with fail
              go_roundw
              case rel => exact ⟨j + 1, acc ++ enc (ty, l), by omega, by go_num, Lib.hid (by rw [hs.out, joi, if_neg (by simp [k0]), if_neg (by omega)]), by simp [enc, k0]; omega, by simpa [enc, k0] using o10, lo10, bel10⟩
              case measure => simp [intOf]; omega
          · go_simp
            have hal_ : Fr (fun _ => False) (wd) (World.alloc (wd) (.cells #[.slice A2 l.length c2] 22)) := (Fr.refl _ _).alloc _
            have r_ := RowsB.one' q_
            have hne_ : ∀ b, v1.ownBlock = some b → b ≠ wd.heap.size := fun b hb h => by have := hv1 b hb; omega
            have o_ := o_.fr hal_ (fun _ _ h => h)
            have hc_ := hal_.cell hc_ (fun h => h)
            have q1_ := q_
            have q_ := q_.fr hal_ (fun _ _ h => h.elim)
            have bel_ := bel_.alloc bel_.size (.cells #[.slice A2 l.length c2] 22)
            refine hK.out _ _ ?_ (fun hHeld => ?_)
            · exact hc_
            clear hK K
            (try simp only [Act.put, List.setIfInBounds_toArray, List.set_cons_zero, List.set_cons_succ])
            refine wpAnyH_ready (rs := [5]) (by kernel_rfl) (by simp) ?_
            refine AllReadyH.cons (o := { dst := (some 41), op := (Op.buildSlice 22 1 #[(0, (Operand.tmp 40))]), type := 22, pos := "tlv.go:52", after := #[{ on := 4, ground := Ground.data }], guard := none }) rfl (fun K hK => ?_) AllReadyH.nil
            go_simp
            have hal_ : Fr (fun _ => False) (wd.alloc (.cells #[.slice A2 l.length c2] 22)) (World.alloc (wd.alloc (.cells #[.slice A2 l.length c2] 22)) (.cells #[.int .u8 (l.length : Int)] 5)) := (Fr.refl _ _).alloc _
            have b_ : Bs (World.alloc (wd.alloc (.cells #[.slice A2 l.length c2] 22)) (.cells #[.int .u8 (l.length : Int)] 5)) (fun b => b ≠ (wd.alloc (.cells #[.slice A2 l.length c2] 22)).heap.size) (.slice (some ⟨(wd.alloc (.cells #[.slice A2 l.length c2] 22)).heap.size, 0, none⟩) 1 1) [(l.length : Int)] := (Ob.lit (wd.alloc (.cells #[.slice A2 l.length c2] 22)) [(l.length : Int)] (by intro x hx; simp at hx; omega) (by simp)).bs (fun b hb h => h (Option.some.inj hb).symm)
            have o_ := o_.fr hal_ (fun _ _ h => h)
            have hc_ := hal_.cell hc_ (fun h => h)
            have q1_ := q_
            have q_ := q_.fr hal_ (fun _ _ h => h.elim)
            have bel_ := bel_.alloc bel_.size (.cells #[.int .u8 (l.length : Int)] 5)
            have r_ := r_.fr hal_ (fun _ h => h.elim)
            rw [show (wd.alloc (.cells #[.slice A2 l.length c2] 22)).heap.size = wd.heap.size + 1 from by simp] at b_
            refine hK.out _ _ ?_ (fun hHeld => ?_)
            · exact hc_
            clear hK K
            (try simp only [Act.put, List.setIfInBounds_toArray, List.set_cons_zero, List.set_cons_succ])
            refine wpAnyH_ready (rs := [6]) (by kernel_rfl) (by simp) ?_
            refine AllReadyH.cons (o := { dst := (some 42), op := (Op.call { callee := (Callee.value (Operand.func 34)), args := #[(Operand.tmp 36), (Operand.tmp 41)], argTypes := #[22, 22] }), type := 22, pos := "tlv.go:52", after := #[{ on := 0, ground := Ground.data }, { on := 5, ground := Ground.data }], guard := none }) rfl (fun K hK => ?_) AllReadyH.nil
            go_simp
            refine (Put8_any o_ b_ (by simp; omega)).mono ?_
            rintro e w6 ⟨v6, rfl, o6, n6, f6⟩
            have lo6 := lo_.next n6 bel_.size
            have hk6 : ∀ b, v6.ownBlock = some b → b ≠ wr.heap.size := nx_ne n6 hk (by have := hkd; simp; omega)
            have r_ := r_.fr f6 (fun b hb => ⟨lo_ b hb, hne_ b hb⟩)
            have hc_ := f6.cell hc_ (fun hb => hk _ hb rfl)
            have q_ := q_.fr f6 (fun b _ hb => lo_ b hb)
            have bel_ := bel_.trans (f6.belowB lo_ bel_.size)
            refine hK.out _ _ ?_ (fun hHeld => ?_)
            · exact hc_
            clear hK K
            (try simp only [Act.put, List.setIfInBounds_toArray, List.set_cons_zero, List.set_cons_succ])
            refine wpAnyH_ready (rs := [10]) (by kernel_rfl) (by simp) ?_
            refine AllReadyH.cons (o := { dst := (some 46), op := (Op.call { callee := (Callee.value (Operand.func 36)), args := #[(Operand.tmp 42), (Operand.tmp 45)], argTypes := #[22, 59] }), type := 22, pos := "tlv.go:52", after := #[{ on := 6, ground := Ground.data }, { on := 9, ground := Ground.data }, { on := 6, ground := Ground.chain }], guard := none }) rfl (fun K hK => ?_) AllReadyH.nil
            go_simp
            refine (PutBytes_any o6 r_ (fun b hb => ⟨lo6 b hb, nx_ne n6 hne_ (by simp <;> omega) b hb⟩) (by simp; omega)).mono ?_
            rintro e w10 ⟨v10, rfl, o10, n10, f10⟩
            have hc_ := f10.cell hc_ (fun hb => hk6 _ hb rfl)
            have lo10 := lo6.next n10 bel_.size
            have bel10 := bel_.trans (f10.belowB lo6 bel_.size)
            refine hK.out _ _ ?_ (fun hHeld => ?_)
            · exact hc_
            clear hK K
            (try simp only [Act.put, List.setIfInBounds_toArray, List.set_cons_zero, List.set_cons_succ])
            refine wpAnyH_take (i := 11) (oi := { dst := (some 4), op := (Op.assign (Operand.tmp 46)), type := 22, pos := "tlv.go:52", after := #[{ on := 10, ground := Ground.data }, { on := 10, ground := Ground.chain }, { on := 0, ground := Ground.phase }, { on := 1, ground := Ground.phase }, { on := 2, ground := Ground.phase }, { on := 3, ground := Ground.phase }, { on := 4, ground := Ground.phase }, { on := 5, ground := Ground.phase }, { on := 6, ground := Ground.phase }, { on := 7, ground := Ground.phase }, { on := 8, ground := Ground.phase }, { on := 9, ground := Ground.phase }, { on := 10, ground := Ground.phase }], guard := none }) (v := ?_) rfl (by kernel_rfl) (by kernel_rfl) (by kernel_rfl) (fun _ _ _ h => h) (Or.inl ⟨by rfl, ?_⟩) (by assumption) ?_
            rotate_left
            · intro w hSw
              (try dsimp only at hSw)
              go_simp
              with_reducible rfl
            (try simp only [Act.put, List.setIfInBounds_toArray, List.set_cons_zero, List.set_cons_succ])
            refine wpAnyH_done (by kernel_rfl) ?_ _
            go_wp2_with fail
            go_roundw
            case rel => exact ⟨j + 1, acc ++ enc (ty, l), by omega, by go_num, Lib.hid (by rw [hs.out, joi, if_neg (by simp [k0]), if_neg (by omega)]), by simp [enc, k0]; omega, by simpa [enc, k0] using o10, lo10, bel10⟩
            case measure => simp [intOf]; omega
    · obtain rfl : j = rs.length := by omega
      rw [List.drop_length] at hs
      go_wp2
      go_ret2
      rw [hs.out]
      exact ⟨_, rfl, ho, hlo, bel⟩
end Go.Proofs.Ytgfhhnmhpncnlaa
