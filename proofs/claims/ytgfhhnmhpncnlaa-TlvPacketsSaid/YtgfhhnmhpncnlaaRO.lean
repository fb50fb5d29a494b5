/-
  The reference's Open. Condition: what comes in is a slice of bytes of less than 2^47.
-/
import Derived.Test.YtgfhhnmhpncnlaaRP
namespace Go.Proofs.Ytgfhhnmhpncnlaa
open Go.RowKit
set_option linter.unusedVariables false
set_option linter.unusedSimpArgs false
theorem cut_from {P : Program} (t e : TypeId) (kl : IntKind) {z : Value} {b : Nat} (ht : P.underlying t = some (.slice e)) (hinfo : (P.info? e).map (fun i => (i.zero, i.size, i.bytes)) = some (some z, 1, b)) (A : Option Addr) (n c : Nat) (lo : Nat) (h2 : lo ≤ n) (hc : n ≤ c) :
    ∀ W : World, (Instr.slice t (.slice A n c) (some (.int kl (lo : Int))) none none).run P W = .ok (.slice (if c = lo then A else A.map (·.add lo)) (n - lo) (c - lo)) W := by
  obtain ⟨i, hi, hz0, hz1, hz2⟩ := info_parts hinfo
  intro W
  have hel : P.elem t = e := by simp [Program.elem, ht]
  have hu : P.underlying t = some (.slice (P.elem t)) := by rw [hel]; exact ht
  rw [run_slice_l W t A n c hu kl (lo : Int) (by omega) (by omega), hel]
  simp [sizeOf, typeInfo, hi, hz1, sliced, Result.andThen]

theorem ap_dis {w : World} {v v' x : Value} (hn : Nx w v v') (d : ∀ b, v.ownBlock = some b → x.ownBlock = some b → False) (hx : ∀ b, x.ownBlock = some b → b < w.heap.size) : ∀ b, v'.ownBlock = some b → x.ownBlock = some b → False := fun b hb hxb => by
  rcases hn with e | ⟨c, e, hc⟩
  · exact d b (e ▸ hb) hxb
  · rw [e] at hb; cases hb; have := hx _ hxb; omega
set_option maxRecDepth 100000 in
set_option maxHeartbeats 3000000 in
theorem ROpen_any {w : World} {S : Nat → Prop} {x : Value} {p : List Int} (h : Bs w S x p) (hl : p.length ≤ 140737488355000) :
    Calls Try.prog 41 #[x] w fun e w' => ∃ v1 v2, e = .returned (.tuple #[v1, v2, .int .i64 (opn p).2.2]) ∧ Bs w' (fun b => w'.heap.size ≤ b) v1 (opn p).1 ∧ Bs w' (fun b => w'.heap.size ≤ b) v2 (opn p).2.1 ∧ Below w.heap.size w w' := by
  obtain ⟨A, c, rfl, hc1, hc2, hc3, hB, hA⟩ := id h
  by_cases hc : p.length < 4
  · have e0 : opn p = ([], [], 3) := by
      match p, hc with
      | [], _ => rfl
      | [a], _ => rfl
      | [a, b], _ => rfl
      | [a, b, c], _ => rfl
    rw [e0]
    have d0 : decide (p.length < 4) = true := decide_eq_true hc
    clear e0 h hA hB
    go_enter Try.func41, Try.ntmps41
    go_wp2
    go_ret3
    exact ⟨_, _, rfl, (Ob.nil _).old, (Ob.nil _).old, Below.refl _ _⟩
  · have d0 : decide (p.length < 4) = false := decide_eq_false hc
    obtain ⟨a, b, c2, d, t, hp⟩ : ∃ a b c d t, p = a :: b :: c :: d :: t := by
      match p, hc with
      | [], h => simp at h
      | [a], h => simp at h
      | [a, b], h => simp at h
      | [a, b, c], h => simp at h
      | a :: b :: c :: d :: t, _ => exact ⟨_, _, _, _, _, rfl⟩
    have ha := hB a (by rw [hp]; simp)
    have hb := hB b (by rw [hp]; simp)
    have hc' := hB c2 (by rw [hp]; simp)
    have hd := hB d (by rw [hp]; simp)
    obtain ⟨n, hn⟩ : ∃ n : Nat, c2 * 256 + d = n := ⟨(c2 * 256 + d).toNat, by omega⟩
    have hlt : p.length = 4 + t.length := by rw [hp]; simp; omega
    have e0 : opn p = if a ≠ 42 then ([], [], 50) else if b ≠ 2 then ([], [], 51) else if p.length - 4 < n then ([], [], 52) else ((p.drop 4).take n, p.drop (4 + n), 0) := by
      have ht : t = p.drop 4 := by rw [hp]; rfl
      have hk : ((n : Int) > t.length) = (p.length - 4 < n) := propext ⟨fun h => by omega, fun h => by omega⟩
      have e1 : opn p = if a ≠ 42 then ([], [], 50) else if b ≠ 2 then ([], [], 51) else if c2 * 256 + d > t.length then ([], [], 52) else (t.take (c2 * 256 + d).toNat, t.drop (c2 * 256 + d).toNat, 0) := by rw [hp]; rfl
      rw [e1, hn]
      simp only [hk, Int.toNat_natCast]
      rw [← List.drop_drop, ← ht]
    obtain ⟨ad, rfl⟩ : ∃ ad, A = some ad := by
      cases A with
      | none => have := hc3 rfl; omega
      | some ad => exact ⟨ad, rfl⟩
    obtain ⟨s1, s2, s3, s4⟩ := hA ad rfl (by omega)
    obtain ⟨bk, o, sp⟩ := ad
    simp only at s1
    subst s1
    have H0 : w.cell? ⟨bk, o, none⟩ = some (.int .u8 a) := by have := s4 0 (by omega); rw [Addr.add_lit] at this; rw [hp] at this; simpa using this
    have H1 : w.cell? ⟨bk, o + 1, none⟩ = some (.int .u8 b) := by have := s4 1 (by omega); rw [Addr.add_lit] at this; rw [hp] at this; simpa using this
    have H2 : w.cell? ⟨bk, o + 2, none⟩ = some (.int .u8 c2) := by have := s4 2 (by omega); rw [Addr.add_lit] at this; rw [hp] at this; simpa using this
    have H3 : w.cell? ⟨bk, o + 3, none⟩ = some (.int .u8 d) := by have := s4 3 (by omega); rw [Addr.add_lit] at this; rw [hp] at this; simpa using this
    have hsh : IntKind.i64.wrap (c2 * 256) = c2 * 256 := IntWalk.i64_in _ (by omega)
    have hor : bits .or .i64 (c2 * 256) d = n := by
      rw [bits_join .i64 63 (by decide) (fun n h0 h1 => IntWalk.i64_in _ (by constructor <;> omega)) 8 (c2 * 256) d (by omega) (by omega) (by omega) (by omega) (by omega) (by omega)]; exact hn
    have hn2 : n < 65536 := by omega
    clear s4 s3 s2 hA hp hn hlt hB
    have e0 := Lib.hid e0
    have g := Lib.hid h.out
    have hc3 := Lib.hid hc3
    clear h
    go_enter Try.func41, Try.ntmps41
    by_cases ka : a = 42
    · by_cases kb : b = 2
      · have kA : (a == 42) = true := by simp [ka]
        have kB : (b == 2) = true := by simp [kb]
        have e1 := Lib.hid (show opn p = if p.length - 4 < n then ([], [], 52) else ((p.drop 4).take n, p.drop (4 + n), 0) by rw [e0.out, if_neg (by simp [ka]), if_neg (by simp [kb])])
        subst ka kb
        go_wp2_with fail
        go_quiet (fail)
        have g := Lib.hid (g.out.fr (S' := fun _ => False) ((Fr.refl _ w).drewN nq) (fun _ _ h => h.elim))
        have b0 : Below w.heap.size w (w.drewN nq) := below_drewN' (Below.refl _ _) nq
        clear H0 H1 H2 H3
        generalize w.drewN nq = wq at *
        by_cases kn : p.length - 4 < n
        · have kN2 : decide ((p.length : Int) - 4 < (n : Int)) = true := decide_eq_true (by omega)
          go_wp2_with fail
          go_ret3
          rw [e1.out, if_pos kn]
          exact ⟨_, _, rfl, (Ob.nil _).old, (Ob.nil _).old, b0⟩
        · have kN2 : decide ((p.length : Int) - 4 < (n : Int)) = false := decide_eq_false (by omega)
          have e1 := Lib.hid (e1.out.trans (if_neg kn))
          go_wp2_with fail
          have G := g.out
          have hA0 : (some (⟨bk, o, none⟩ : Addr)) = none → c = 0 := fun h => by cases h
          generalize (some (⟨bk, o, none⟩ : Addr)) = A at *
          have hcA := cut_mid (P := Try.prog) 22 5 .i64 .i64 Try.underlying22 Try.info5 A p.length c 4 (4 + (n : Int)) (by decide) (by omega) (by omega) hc1
          have hbA := G.cut (i := 4) (j := 4 + n) (by omega) (by omega)
          have hcB := cut_from (P := Try.prog) 22 5 .i64 Try.underlying22 Try.info5 A p.length c (4 + n) (by omega) hc1
          have hbB := G.cut (i := 4 + n) (j := p.length) (by omega) (Nat.le_refl _)
          rw [show ((4 : Int) + n).toNat = 4 + n from by omega, show (4 : Int).toNat = 4 from rfl, Nat.mul_one, show 4 + n - 4 = n from by omega] at hcA
          rw [show 4 + n - 4 = n from by omega, List.drop_take, show 4 + n - 4 = n from by omega] at hbA
          rw [show ((4 + n : Nat) : Int) = 4 + (n : Int) from by omega] at hcB
          rw [List.take_length] at hbB
          generalize (if c = 4 then A else A.map (·.add 4)) = AA at hcA hbA
          generalize (if c = 4 + n then A else A.map (·.add (4 + n))) = AB at hcB hbB
          have hdr : Fr (fun _ => False) wq wq.drew := (Fr.refl _ wq).drewN 1
          have q1_ := (hbA.fr hdr (fun _ _ h => h.elim)).out
          have q2_ := (hbB.fr hdr (fun _ _ h => h.elim)).out
          have b1 : Below w.heap.size w wq.drew := b0.drew
          have bel_ : Below wq.drew.heap.size wq.drew wq.drew := Below.refl _ _
          have hlA : ((p.drop 4).take n).length ≤ 140737488355000 := by simp; omega
          have hlB : (p.drop (4 + n)).length ≤ 140737488355000 := by simp; omega
          have hw4 : IntKind.i64.wrap (4 + (n : Int)) = 4 + n := IntWalk.i64_in _ (by omega)
          have hlA := Lib.hid hlA; have hlB := Lib.hid hlB
          clear G hbA hbB hdr b0 g
          refine wp_region_held_drew (S := (fun W => True)) (by kernel_rfl) (trivial) (fun hHeld => ?_)
          generalize wq.drew = wd at *
          refine wpAnyH_take (i := 1) (oi := { dst := (some 33), op := (Op.move (Operand.tmp 0)), type := 22, pos := "ref.go:39", after := #[], guard := none }) (v := ?_) rfl (by kernel_rfl) (by kernel_rfl) (by kernel_rfl) (fun _ _ _ h => h) (Or.inl ⟨by rfl, ?_⟩) (by assumption) ?_
          rotate_left
          · intro w hSw
            (try dsimp only at hSw)
            go_simp
            with_reducible rfl
          (try simp only [Act.put, List.setIfInBounds_toArray, List.set_cons_zero, List.set_cons_succ])
          refine wpAnyH_take (i := 2) (oi := { dst := (some 34), op := (Op.move (Operand.tmp 5)), type := 3, pos := "ref.go:39", after := #[], guard := none }) (v := ?_) rfl (by kernel_rfl) (by kernel_rfl) (by kernel_rfl) (fun _ _ _ h => h) (Or.inl ⟨by rfl, ?_⟩) (by assumption) ?_
          rotate_left
          · intro w hSw
            (try dsimp only at hSw)
            go_simp
            with_reducible rfl
          (try simp only [Act.put, List.setIfInBounds_toArray, List.set_cons_zero, List.set_cons_succ])
          refine wpAnyH_take (i := 3) (oi := { dst := (some 35), op := (Op.binOp BinOp.add 3 (Operand.const (Value.int IntKind.i64 4)) (Operand.tmp 34) 3), type := 3, pos := "ref.go:39", after := #[{ on := 2, ground := Ground.data }], guard := none }) (v := ?_) rfl (by kernel_rfl) (by kernel_rfl) (by kernel_rfl) (fun _ _ _ h => h) (Or.inl ⟨by rfl, ?_⟩) (by assumption) ?_
          rotate_left
          · intro w hSw
            (try dsimp only at hSw)
            go_simp
            with_reducible rfl
          (try simp only [Act.put, List.setIfInBounds_toArray, List.set_cons_zero, List.set_cons_succ])
          refine wpAnyH_take (i := 4) (oi := { dst := (some 36), op := (Op.slice 22 (Operand.tmp 33) (some (Operand.const (Value.int IntKind.i64 4))) (some (Operand.tmp 35)) none), type := 22, pos := "ref.go:39", after := #[{ on := 1, ground := Ground.data }, { on := 3, ground := Ground.data }], guard := none }) (v := ?_) rfl (by kernel_rfl) (by kernel_rfl) (by kernel_rfl) (fun _ _ _ h => h) (Or.inl ⟨by rfl, ?_⟩) (by assumption) ?_
          rotate_left
          · intro w hSw
            (try dsimp only at hSw)
            go_simp
            with_reducible rfl
          (try simp only [Act.put, List.setIfInBounds_toArray, List.set_cons_zero, List.set_cons_succ])
          refine wpAnyH_take (i := 7) (oi := { dst := (some 39), op := (Op.move (Operand.tmp 0)), type := 22, pos := "ref.go:39", after := #[], guard := none }) (v := ?_) rfl (by kernel_rfl) (by kernel_rfl) (by kernel_rfl) (fun _ _ _ h => h) (Or.inl ⟨by rfl, ?_⟩) (by assumption) ?_
          rotate_left
          · intro w hSw
            (try dsimp only at hSw)
            go_simp
            with_reducible rfl
          (try simp only [Act.put, List.setIfInBounds_toArray, List.set_cons_zero, List.set_cons_succ])
          refine wpAnyH_take (i := 8) (oi := { dst := (some 40), op := (Op.move (Operand.tmp 5)), type := 3, pos := "ref.go:39", after := #[], guard := none }) (v := ?_) rfl (by kernel_rfl) (by kernel_rfl) (by kernel_rfl) (fun _ _ _ h => h) (Or.inl ⟨by rfl, ?_⟩) (by assumption) ?_
          rotate_left
          · intro w hSw
            (try dsimp only at hSw)
            go_simp
            with_reducible rfl
          (try simp only [Act.put, List.setIfInBounds_toArray, List.set_cons_zero, List.set_cons_succ])
          refine wpAnyH_take (i := 9) (oi := { dst := (some 41), op := (Op.binOp BinOp.add 3 (Operand.const (Value.int IntKind.i64 4)) (Operand.tmp 40) 3), type := 3, pos := "ref.go:39", after := #[{ on := 8, ground := Ground.data }], guard := none }) (v := ?_) rfl (by kernel_rfl) (by kernel_rfl) (by kernel_rfl) (fun _ _ _ h => h) (Or.inl ⟨by rfl, ?_⟩) (by assumption) ?_
          rotate_left
          · intro w hSw
            (try dsimp only at hSw)
            go_simp
            with_reducible rfl
          (try simp only [Act.put, List.setIfInBounds_toArray, List.set_cons_zero, List.set_cons_succ])
          refine wpAnyH_take (i := 10) (oi := { dst := (some 42), op := (Op.slice 22 (Operand.tmp 39) (some (Operand.tmp 41)) none none), type := 22, pos := "ref.go:39", after := #[{ on := 7, ground := Ground.data }, { on := 9, ground := Ground.data }], guard := none }) (v := ?_) rfl (by kernel_rfl) (by kernel_rfl) (by kernel_rfl) (fun _ _ _ h => h) (Or.inl ⟨by rfl, ?_⟩) (by assumption) ?_
          rotate_left
          · intro w hSw
            (try dsimp only at hSw)
            go_simp
            with_reducible rfl
          (try simp only [Act.put, List.setIfInBounds_toArray, List.set_cons_zero, List.set_cons_succ])
          refine wpAnyH_ready (rs := [0, 6]) (by kernel_rfl) (by simp) ?_
          refine AllReadyH.cons (o := { dst := (some 32), op := (Op.buildSlice 22 0 #[]), type := 22, pos := "ref.go:39", after := #[], guard := none }) rfl (fun K hK => ?_) (AllReadyH.cons (o := { dst := (some 38), op := (Op.buildSlice 22 0 #[]), type := 22, pos := "ref.go:39", after := #[], guard := none }) rfl (fun K hK => ?_) AllReadyH.nil)
          · go_simp
            have hal_ : Fr (fun _ => False) (wd) (World.alloc (wd) (.cells #[] 5)) := (Fr.refl _ _).alloc _
            have o1 := Ob.empty (wd)
            have lo1 : Lo wd.heap.size (Value.slice (some ⟨wd.heap.size, 0, none⟩) 0 0) := fun b hb => by have e : wd.heap.size = b := Option.some.inj hb; have := bel_.size; omega
            have q1_ := q1_.fr hal_ (fun _ _ h => h.elim)
            have q2_ := q2_.fr hal_ (fun _ _ h => h.elim)
            have bel_ := bel_.alloc bel_.size (.cells #[] 5)
            refine hK.out _ _ ?_ (fun hHeld => ?_)
            · exact trivial
            clear hK K
            (try simp only [Act.put, List.setIfInBounds_toArray, List.set_cons_zero, List.set_cons_succ])
            refine wpAnyH_ready (rs := [5, 6]) (by kernel_rfl) (by simp) ?_
            refine AllReadyH.cons (o := { dst := (some 37), op := (Op.call { callee := (Callee.builtin Builtin.append), args := #[(Operand.tmp 32), (Operand.tmp 36)], argTypes := #[22, 22] }), type := 22, pos := "ref.go:39", after := #[{ on := 0, ground := Ground.data }, { on := 4, ground := Ground.data }], guard := none }) rfl (fun K hK => ?_) (AllReadyH.cons (o := { dst := (some 38), op := (Op.buildSlice 22 0 #[]), type := 22, pos := "ref.go:39", after := #[], guard := none }) rfl (fun K hK => ?_) AllReadyH.nil)
            · refine wanted_go (by rfl) ?_
              refine wp_appB (.tmp 32) (.tmp 36) rfl rfl o1 rfl q1_ (by simp; omega) ?_
              intro v1 W1 oo nn ff
              have o1 := oo
              have bel0_ := bel_
              have bel_ := bel_.trans (ff.belowB lo1 bel_.size)
              have q1_ := q1_.fr ff (fun b _ hb => lo1 b hb)
              have q2_ := q2_.fr ff (fun b _ hb => lo1 b hb)
              have lo1 := lo1.next nn bel0_.size
              refine hK.out _ _ ?_ (fun hHeld => ?_)
              · exact trivial
              clear hK K
              (try simp only [Act.put, List.setIfInBounds_toArray, List.set_cons_zero, List.set_cons_succ])
              refine wpAnyH_ready (rs := [6]) (by kernel_rfl) (by simp) ?_
              refine AllReadyH.cons (o := { dst := (some 38), op := (Op.buildSlice 22 0 #[]), type := 22, pos := "ref.go:39", after := #[], guard := none }) rfl (fun K hK => ?_) AllReadyH.nil
              go_simp
              have hal_ : Fr (fun _ => False) (W1) (World.alloc (W1) (.cells #[] 5)) := (Fr.refl _ _).alloc _
              have o2 := Ob.empty (W1)
              have lo2 : Lo wd.heap.size (Value.slice (some ⟨W1.heap.size, 0, none⟩) 0 0) := fun b hb => by have e : W1.heap.size = b := Option.some.inj hb; have := bel_.size; omega
              have d2 : ∀ b, (Value.slice (some ⟨W1.heap.size, 0, none⟩) 0 0).ownBlock = some b → v1.ownBlock = some b → False := fun b h k => by have e : W1.heap.size = b := Option.some.inj h; have l := o1.lt b k; omega
              have d1 : ∀ b, v1.ownBlock = some b → (Value.slice (some ⟨W1.heap.size, 0, none⟩) 0 0).ownBlock = some b → False := fun b h k => d2 b k h
              have o1 := o1.fr hal_ (fun _ _ h => h)
              have q1_ := q1_.fr hal_ (fun _ _ h => h.elim)
              have q2_ := q2_.fr hal_ (fun _ _ h => h.elim)
              have bel_ := bel_.alloc bel_.size (.cells #[] 5)
              refine hK.out _ _ ?_ (fun hHeld => ?_)
              · exact trivial
              clear hK K
              (try simp only [Act.put, List.setIfInBounds_toArray, List.set_cons_zero, List.set_cons_succ])
              refine wpAnyH_ready (rs := [11]) (by kernel_rfl) (by simp) ?_
              refine AllReadyH.cons (o := { dst := (some 43), op := (Op.call { callee := (Callee.builtin Builtin.append), args := #[(Operand.tmp 38), (Operand.tmp 42)], argTypes := #[22, 22] }), type := 22, pos := "ref.go:39", after := #[{ on := 6, ground := Ground.data }, { on := 10, ground := Ground.data }, { on := 5, ground := Ground.chain }], guard := none }) rfl (fun K hK => ?_) AllReadyH.nil
              refine wanted_go (by rfl) ?_
              refine wp_appB (.tmp 38) (.tmp 42) rfl rfl o2 rfl q2_ (by simp; omega) ?_
              intro v2 W2 oo nn ff
              have l_ := o1.lt
              have o1 := o1.fr ff (fun b hb k => d2 b k hb)
              have d2 := ap_dis nn d2 l_
              have d1 := fun b h k => d2 b k h
              have o2 := oo
              have bel0_ := bel_
              have bel_ := bel_.trans (ff.belowB lo2 bel_.size)
              have q1_ := q1_.fr ff (fun b _ hb => lo2 b hb)
              have q2_ := q2_.fr ff (fun b _ hb => lo2 b hb)
              have lo2 := lo2.next nn bel0_.size
              refine hK.out _ _ ?_ (fun hHeld => ?_)
              · exact trivial
              clear hK K
              (try simp only [Act.put, List.setIfInBounds_toArray, List.set_cons_zero, List.set_cons_succ])
              refine wpAnyH_take (i := 12) (oi := { dst := (some 2), op := (Op.assign (Operand.tmp 37)), type := 22, pos := "ref.go:39", after := #[{ on := 5, ground := Ground.data }, { on := 11, ground := Ground.chain }, { on := 0, ground := Ground.phase }, { on := 1, ground := Ground.phase }, { on := 2, ground := Ground.phase }, { on := 3, ground := Ground.phase }, { on := 4, ground := Ground.phase }, { on := 5, ground := Ground.phase }, { on := 6, ground := (Ground.textOnly Departure.lateStores) }, { on := 7, ground := (Ground.textOnly Departure.lateStores) }, { on := 8, ground := (Ground.textOnly Departure.lateStores) }, { on := 9, ground := (Ground.textOnly Departure.lateStores) }, { on := 10, ground := (Ground.textOnly Departure.lateStoresUnsure) }, { on := 11, ground := (Ground.textOnly Departure.lateStoresUnsure) }], guard := none }) (v := ?_) rfl (by kernel_rfl) (by kernel_rfl) (by kernel_rfl) (fun _ _ _ h => h) (Or.inl ⟨by rfl, ?_⟩) (by assumption) ?_
              rotate_left
              · intro w hSw
                (try dsimp only at hSw)
                go_simp
                with_reducible rfl
              (try simp only [Act.put, List.setIfInBounds_toArray, List.set_cons_zero, List.set_cons_succ])
              refine wpAnyH_take (i := 13) (oi := { dst := (some 3), op := (Op.assign (Operand.tmp 43)), type := 22, pos := "ref.go:39", after := #[{ on := 11, ground := Ground.data }, { on := 12, ground := Ground.chain }, { on := 0, ground := Ground.phase }, { on := 1, ground := Ground.phase }, { on := 2, ground := Ground.phase }, { on := 3, ground := Ground.phase }, { on := 4, ground := Ground.phase }, { on := 5, ground := Ground.phase }, { on := 6, ground := Ground.phase }, { on := 7, ground := Ground.phase }, { on := 8, ground := Ground.phase }, { on := 9, ground := Ground.phase }, { on := 10, ground := Ground.phase }, { on := 11, ground := Ground.phase }, { on := 12, ground := Ground.phase }], guard := none }) (v := ?_) rfl (by kernel_rfl) (by kernel_rfl) (by kernel_rfl) (fun _ _ _ h => h) (Or.inl ⟨by rfl, ?_⟩) (by assumption) ?_
              rotate_left
              · intro w hSw
                (try dsimp only at hSw)
                go_simp
                with_reducible rfl
              (try simp only [Act.put, List.setIfInBounds_toArray, List.set_cons_zero, List.set_cons_succ])
              refine wpAnyH_take (i := 14) (oi := { dst := (some 4), op := (Op.assign (Operand.const (Value.int IntKind.i64 0))), type := 3, pos := "ref.go:39", after := #[{ on := 13, ground := Ground.chain }, { on := 0, ground := Ground.phase }, { on := 1, ground := Ground.phase }, { on := 2, ground := Ground.phase }, { on := 3, ground := Ground.phase }, { on := 4, ground := Ground.phase }, { on := 5, ground := Ground.phase }, { on := 6, ground := Ground.phase }, { on := 7, ground := Ground.phase }, { on := 8, ground := Ground.phase }, { on := 9, ground := Ground.phase }, { on := 10, ground := Ground.phase }, { on := 11, ground := Ground.phase }, { on := 12, ground := Ground.phase }, { on := 13, ground := Ground.phase }], guard := none }) (v := ?_) rfl (by kernel_rfl) (by kernel_rfl) (by kernel_rfl) (fun _ _ _ h => h) (Or.inl ⟨by rfl, ?_⟩) (by assumption) ?_
              rotate_left
              · intro w hSw
                (try dsimp only at hSw)
                go_simp
                with_reducible rfl
              (try simp only [Act.put, List.setIfInBounds_toArray, List.set_cons_zero, List.set_cons_succ])
              refine wpAnyH_done (by kernel_rfl) ?_ _
              go_wp2_with fail
              go_ret3
              rw [e1.out]
              exact ⟨_, _, rfl, o1.old, o2.old, b1.trans (bel_.mono b1.size)⟩
            · go_simp
              have hal_ : Fr (fun _ => False) (wd.alloc (.cells #[] 5)) (World.alloc (wd.alloc (.cells #[] 5)) (.cells #[] 5)) := (Fr.refl _ _).alloc _
              have o2 := Ob.empty (wd.alloc (.cells #[] 5))
              rw [show (wd.alloc (.cells #[] 5)).heap.size = wd.heap.size + 1 from by simp] at o2
              have lo2 : Lo wd.heap.size (Value.slice (some ⟨wd.heap.size + 1, 0, none⟩) 0 0) := fun b hb => by have e : wd.heap.size + 1 = b := Option.some.inj hb; have := bel_.size; omega
              have d2 : ∀ b, (Value.slice (some ⟨wd.heap.size + 1, 0, none⟩) 0 0).ownBlock = some b → (Value.slice (some ⟨wd.heap.size, 0, none⟩) 0 0).ownBlock = some b → False := fun b h k => by have e : wd.heap.size + 1 = b := Option.some.inj h; have e' : wd.heap.size = b := Option.some.inj k; omega
              have d1 : ∀ b, (Value.slice (some ⟨wd.heap.size, 0, none⟩) 0 0).ownBlock = some b → (Value.slice (some ⟨wd.heap.size + 1, 0, none⟩) 0 0).ownBlock = some b → False := fun b h k => d2 b k h
              have o1 := o1.fr hal_ (fun _ _ h => h)
              have q1_ := q1_.fr hal_ (fun _ _ h => h.elim)
              have q2_ := q2_.fr hal_ (fun _ _ h => h.elim)
              have bel_ := bel_.alloc bel_.size (.cells #[] 5)
              refine hK.out _ _ ?_ (fun hHeld => ?_)
              · exact trivial
              clear hK K
              (try simp only [Act.put, List.setIfInBounds_toArray, List.set_cons_zero, List.set_cons_succ])
              refine wpAnyH_ready (rs := [5]) (by kernel_rfl) (by simp) ?_
              refine AllReadyH.cons (o := { dst := (some 37), op := (Op.call { callee := (Callee.builtin Builtin.append), args := #[(Operand.tmp 32), (Operand.tmp 36)], argTypes := #[22, 22] }), type := 22, pos := "ref.go:39", after := #[{ on := 0, ground := Ground.data }, { on := 4, ground := Ground.data }], guard := none }) rfl (fun K hK => ?_) AllReadyH.nil
              refine wanted_go (by rfl) ?_
              refine wp_appB (.tmp 32) (.tmp 36) rfl rfl o1 rfl q1_ (by simp; omega) ?_
              intro v1 W1 oo nn ff
              have l_ := o2.lt
              have o2 := o2.fr ff (fun b hb k => d1 b k hb)
              have d1 := ap_dis nn d1 l_
              have d2 := fun b h k => d1 b k h
              have o1 := oo
              have bel0_ := bel_
              have bel_ := bel_.trans (ff.belowB lo1 bel_.size)
              have q1_ := q1_.fr ff (fun b _ hb => lo1 b hb)
              have q2_ := q2_.fr ff (fun b _ hb => lo1 b hb)
              have lo1 := lo1.next nn bel0_.size
              refine hK.out _ _ ?_ (fun hHeld => ?_)
              · exact trivial
              clear hK K
              (try simp only [Act.put, List.setIfInBounds_toArray, List.set_cons_zero, List.set_cons_succ])
              refine wpAnyH_ready (rs := [11]) (by kernel_rfl) (by simp) ?_
              refine AllReadyH.cons (o := { dst := (some 43), op := (Op.call { callee := (Callee.builtin Builtin.append), args := #[(Operand.tmp 38), (Operand.tmp 42)], argTypes := #[22, 22] }), type := 22, pos := "ref.go:39", after := #[{ on := 6, ground := Ground.data }, { on := 10, ground := Ground.data }, { on := 5, ground := Ground.chain }], guard := none }) rfl (fun K hK => ?_) AllReadyH.nil
              refine wanted_go (by rfl) ?_
              refine wp_appB (.tmp 38) (.tmp 42) rfl rfl o2 rfl q2_ (by simp; omega) ?_
              intro v2 W2 oo nn ff
              have l_ := o1.lt
              have o1 := o1.fr ff (fun b hb k => d2 b k hb)
              have d2 := ap_dis nn d2 l_
              have d1 := fun b h k => d2 b k h
              have o2 := oo
              have bel0_ := bel_
              have bel_ := bel_.trans (ff.belowB lo2 bel_.size)
              have q1_ := q1_.fr ff (fun b _ hb => lo2 b hb)
              have q2_ := q2_.fr ff (fun b _ hb => lo2 b hb)
              have lo2 := lo2.next nn bel0_.size
              refine hK.out _ _ ?_ (fun hHeld => ?_)
              · exact trivial
              clear hK K
              (try simp only [Act.put, List.setIfInBounds_toArray, List.set_cons_zero, List.set_cons_succ])
              refine wpAnyH_take (i := 12) (oi := { dst := (some 2), op := (Op.assign (Operand.tmp 37)), type := 22, pos := "ref.go:39", after := #[{ on := 5, ground := Ground.data }, { on := 11, ground := Ground.chain }, { on := 0, ground := Ground.phase }, { on := 1, ground := Ground.phase }, { on := 2, ground := Ground.phase }, { on := 3, ground := Ground.phase }, { on := 4, ground := Ground.phase }, { on := 5, ground := Ground.phase }, { on := 6, ground := (Ground.textOnly Departure.lateStores) }, { on := 7, ground := (Ground.textOnly Departure.lateStores) }, { on := 8, ground := (Ground.textOnly Departure.lateStores) }, { on := 9, ground := (Ground.textOnly Departure.lateStores) }, { on := 10, ground := (Ground.textOnly Departure.lateStoresUnsure) }, { on := 11, ground := (Ground.textOnly Departure.lateStoresUnsure) }], guard := none }) (v := ?_) rfl (by kernel_rfl) (by kernel_rfl) (by kernel_rfl) (fun _ _ _ h => h) (Or.inl ⟨by rfl, ?_⟩) (by assumption) ?_
              rotate_left
              · intro w hSw
                (try dsimp only at hSw)
                go_simp
                with_reducible rfl
              (try simp only [Act.put, List.setIfInBounds_toArray, List.set_cons_zero, List.set_cons_succ])
              refine wpAnyH_take (i := 13) (oi := { dst := (some 3), op := (Op.assign (Operand.tmp 43)), type := 22, pos := "ref.go:39", after := #[{ on := 11, ground := Ground.data }, { on := 12, ground := Ground.chain }, { on := 0, ground := Ground.phase }, { on := 1, ground := Ground.phase }, { on := 2, ground := Ground.phase }, { on := 3, ground := Ground.phase }, { on := 4, ground := Ground.phase }, { on := 5, ground := Ground.phase }, { on := 6, ground := Ground.phase }, { on := 7, ground := Ground.phase }, { on := 8, ground := Ground.phase }, { on := 9, ground := Ground.phase }, { on := 10, ground := Ground.phase }, { on := 11, ground := Ground.phase }, { on := 12, ground := Ground.phase }], guard := none }) (v := ?_) rfl (by kernel_rfl) (by kernel_rfl) (by kernel_rfl) (fun _ _ _ h => h) (Or.inl ⟨by rfl, ?_⟩) (by assumption) ?_
              rotate_left
              · intro w hSw
                (try dsimp only at hSw)
                go_simp
                with_reducible rfl
              (try simp only [Act.put, List.setIfInBounds_toArray, List.set_cons_zero, List.set_cons_succ])
              refine wpAnyH_take (i := 14) (oi := { dst := (some 4), op := (Op.assign (Operand.const (Value.int IntKind.i64 0))), type := 3, pos := "ref.go:39", after := #[{ on := 13, ground := Ground.chain }, { on := 0, ground := Ground.phase }, { on := 1, ground := Ground.phase }, { on := 2, ground := Ground.phase }, { on := 3, ground := Ground.phase }, { on := 4, ground := Ground.phase }, { on := 5, ground := Ground.phase }, { on := 6, ground := Ground.phase }, { on := 7, ground := Ground.phase }, { on := 8, ground := Ground.phase }, { on := 9, ground := Ground.phase }, { on := 10, ground := Ground.phase }, { on := 11, ground := Ground.phase }, { on := 12, ground := Ground.phase }, { on := 13, ground := Ground.phase }], guard := none }) (v := ?_) rfl (by kernel_rfl) (by kernel_rfl) (by kernel_rfl) (fun _ _ _ h => h) (Or.inl ⟨by rfl, ?_⟩) (by assumption) ?_
              rotate_left
              · intro w hSw
                (try dsimp only at hSw)
                go_simp
                with_reducible rfl
              (try simp only [Act.put, List.setIfInBounds_toArray, List.set_cons_zero, List.set_cons_succ])
              refine wpAnyH_done (by kernel_rfl) ?_ _
              go_wp2_with fail
              go_ret3
              rw [e1.out]
              exact ⟨_, _, rfl, o1.old, o2.old, b1.trans (bel_.mono b1.size)⟩
          · go_simp
            have hal_ : Fr (fun _ => False) (wd) (World.alloc (wd) (.cells #[] 5)) := (Fr.refl _ _).alloc _
            have o2 := Ob.empty (wd)
            have lo2 : Lo wd.heap.size (Value.slice (some ⟨wd.heap.size, 0, none⟩) 0 0) := fun b hb => by have e : wd.heap.size = b := Option.some.inj hb; have := bel_.size; omega
            have q1_ := q1_.fr hal_ (fun _ _ h => h.elim)
            have q2_ := q2_.fr hal_ (fun _ _ h => h.elim)
            have bel_ := bel_.alloc bel_.size (.cells #[] 5)
            refine hK.out _ _ ?_ (fun hHeld => ?_)
            · exact trivial
            clear hK K
            (try simp only [Act.put, List.setIfInBounds_toArray, List.set_cons_zero, List.set_cons_succ])
            refine wpAnyH_ready (rs := [0]) (by kernel_rfl) (by simp) ?_
            refine AllReadyH.cons (o := { dst := (some 32), op := (Op.buildSlice 22 0 #[]), type := 22, pos := "ref.go:39", after := #[], guard := none }) rfl (fun K hK => ?_) AllReadyH.nil
            go_simp
            have hal_ : Fr (fun _ => False) (wd.alloc (.cells #[] 5)) (World.alloc (wd.alloc (.cells #[] 5)) (.cells #[] 5)) := (Fr.refl _ _).alloc _
            have o1 := Ob.empty (wd.alloc (.cells #[] 5))
            rw [show (wd.alloc (.cells #[] 5)).heap.size = wd.heap.size + 1 from by simp] at o1
            have lo1 : Lo wd.heap.size (Value.slice (some ⟨wd.heap.size + 1, 0, none⟩) 0 0) := fun b hb => by have e : wd.heap.size + 1 = b := Option.some.inj hb; have := bel_.size; omega
            have d1 : ∀ b, (Value.slice (some ⟨wd.heap.size + 1, 0, none⟩) 0 0).ownBlock = some b → (Value.slice (some ⟨wd.heap.size, 0, none⟩) 0 0).ownBlock = some b → False := fun b h k => by have e : wd.heap.size + 1 = b := Option.some.inj h; have e' : wd.heap.size = b := Option.some.inj k; omega
            have d2 : ∀ b, (Value.slice (some ⟨wd.heap.size, 0, none⟩) 0 0).ownBlock = some b → (Value.slice (some ⟨wd.heap.size + 1, 0, none⟩) 0 0).ownBlock = some b → False := fun b h k => d1 b k h
            have o2 := o2.fr hal_ (fun _ _ h => h)
            have q1_ := q1_.fr hal_ (fun _ _ h => h.elim)
            have q2_ := q2_.fr hal_ (fun _ _ h => h.elim)
            have bel_ := bel_.alloc bel_.size (.cells #[] 5)
            refine hK.out _ _ ?_ (fun hHeld => ?_)
            · exact trivial
            clear hK K
            (try simp only [Act.put, List.setIfInBounds_toArray, List.set_cons_zero, List.set_cons_succ])
            refine wpAnyH_ready (rs := [5]) (by kernel_rfl) (by simp) ?_
            refine AllReadyH.cons (o := { dst := (some 37), op := (Op.call { callee := (Callee.builtin Builtin.append), args := #[(Operand.tmp 32), (Operand.tmp 36)], argTypes := #[22, 22] }), type := 22, pos := "ref.go:39", after := #[{ on := 0, ground := Ground.data }, { on := 4, ground := Ground.data }], guard := none }) rfl (fun K hK => ?_) AllReadyH.nil
            refine wanted_go (by rfl) ?_
            refine wp_appB (.tmp 32) (.tmp 36) rfl rfl o1 rfl q1_ (by simp; omega) ?_
            intro v1 W1 oo nn ff
            have l_ := o2.lt
            have o2 := o2.fr ff (fun b hb k => d1 b k hb)
            have d1 := ap_dis nn d1 l_
            have d2 := fun b h k => d1 b k h
            have o1 := oo
            have bel0_ := bel_
            have bel_ := bel_.trans (ff.belowB lo1 bel_.size)
            have q1_ := q1_.fr ff (fun b _ hb => lo1 b hb)
            have q2_ := q2_.fr ff (fun b _ hb => lo1 b hb)
            have lo1 := lo1.next nn bel0_.size
            refine hK.out _ _ ?_ (fun hHeld => ?_)
            · exact trivial
            clear hK K
            (try simp only [Act.put, List.setIfInBounds_toArray, List.set_cons_zero, List.set_cons_succ])
            refine wpAnyH_ready (rs := [11]) (by kernel_rfl) (by simp) ?_
            refine AllReadyH.cons (o := { dst := (some 43), op := (Op.call { callee := (Callee.builtin Builtin.append), args := #[(Operand.tmp 38), (Operand.tmp 42)], argTypes := #[22, 22] }), type := 22, pos := "ref.go:39", after := #[{ on := 6, ground := Ground.data }, { on := 10, ground := Ground.data }, { on := 5, ground := Ground.chain }], guard := none }) rfl (fun K hK => ?_) AllReadyH.nil
            refine wanted_go (by rfl) ?_
            refine wp_appB (.tmp 38) (.tmp 42) rfl rfl o2 rfl q2_ (by simp; omega) ?_
            intro v2 W2 oo nn ff
            have l_ := o1.lt
            have o1 := o1.fr ff (fun b hb k => d2 b k hb)
            have d2 := ap_dis nn d2 l_
            have d1 := fun b h k => d2 b k h
            have o2 := oo
            have bel0_ := bel_
            have bel_ := bel_.trans (ff.belowB lo2 bel_.size)
            have q1_ := q1_.fr ff (fun b _ hb => lo2 b hb)
            have q2_ := q2_.fr ff (fun b _ hb => lo2 b hb)
            have lo2 := lo2.next nn bel0_.size
            refine hK.out _ _ ?_ (fun hHeld => ?_)
            · exact trivial
            clear hK K
            (try simp only [Act.put, List.setIfInBounds_toArray, List.set_cons_zero, List.set_cons_succ])
            refine wpAnyH_take (i := 12) (oi := { dst := (some 2), op := (Op.assign (Operand.tmp 37)), type := 22, pos := "ref.go:39", after := #[{ on := 5, ground := Ground.data }, { on := 11, ground := Ground.chain }, { on := 0, ground := Ground.phase }, { on := 1, ground := Ground.phase }, { on := 2, ground := Ground.phase }, { on := 3, ground := Ground.phase }, { on := 4, ground := Ground.phase }, { on := 5, ground := Ground.phase }, { on := 6, ground := (Ground.textOnly Departure.lateStores) }, { on := 7, ground := (Ground.textOnly Departure.lateStores) }, { on := 8, ground := (Ground.textOnly Departure.lateStores) }, { on := 9, ground := (Ground.textOnly Departure.lateStores) }, { on := 10, ground := (Ground.textOnly Departure.lateStoresUnsure) }, { on := 11, ground := (Ground.textOnly Departure.lateStoresUnsure) }], guard := none }) (v := ?_) rfl (by kernel_rfl) (by kernel_rfl) (by kernel_rfl) (fun _ _ _ h => h) (Or.inl ⟨by rfl, ?_⟩) (by assumption) ?_
            rotate_left
            · intro w hSw
              (try dsimp only at hSw)
              go_simp
              with_reducible rfl
            (try simp only [Act.put, List.setIfInBounds_toArray, List.set_cons_zero, List.set_cons_succ])
            refine wpAnyH_take (i := 13) (oi := { dst := (some 3), op := (Op.assign (Operand.tmp 43)), type := 22, pos := "ref.go:39", after := #[{ on := 11, ground := Ground.data }, { on := 12, ground := Ground.chain }, { on := 0, ground := Ground.phase }, { on := 1, ground := Ground.phase }, { on := 2, ground := Ground.phase }, { on := 3, ground := Ground.phase }, { on := 4, ground := Ground.phase }, { on := 5, ground := Ground.phase }, { on := 6, ground := Ground.phase }, { on := 7, ground := Ground.phase }, { on := 8, ground := Ground.phase }, { on := 9, ground := Ground.phase }, { on := 10, ground := Ground.phase }, { on := 11, ground := Ground.phase }, { on := 12, ground := Ground.phase }], guard := none }) (v := ?_) rfl (by kernel_rfl) (by kernel_rfl) (by kernel_rfl) (fun _ _ _ h => h) (Or.inl ⟨by rfl, ?_⟩) (by assumption) ?_
            rotate_left
            · intro w hSw
              (try dsimp only at hSw)
              go_simp
              with_reducible rfl
            (try simp only [Act.put, List.setIfInBounds_toArray, List.set_cons_zero, List.set_cons_succ])
            refine wpAnyH_take (i := 14) (oi := { dst := (some 4), op := (Op.assign (Operand.const (Value.int IntKind.i64 0))), type := 3, pos := "ref.go:39", after := #[{ on := 13, ground := Ground.chain }, { on := 0, ground := Ground.phase }, { on := 1, ground := Ground.phase }, { on := 2, ground := Ground.phase }, { on := 3, ground := Ground.phase }, { on := 4, ground := Ground.phase }, { on := 5, ground := Ground.phase }, { on := 6, ground := Ground.phase }, { on := 7, ground := Ground.phase }, { on := 8, ground := Ground.phase }, { on := 9, ground := Ground.phase }, { on := 10, ground := Ground.phase }, { on := 11, ground := Ground.phase }, { on := 12, ground := Ground.phase }, { on := 13, ground := Ground.phase }], guard := none }) (v := ?_) rfl (by kernel_rfl) (by kernel_rfl) (by kernel_rfl) (fun _ _ _ h => h) (Or.inl ⟨by rfl, ?_⟩) (by assumption) ?_
            rotate_left
            · intro w hSw
              (try dsimp only at hSw)
              go_simp
              with_reducible rfl
            (try simp only [Act.put, List.setIfInBounds_toArray, List.set_cons_zero, List.set_cons_succ])
            refine wpAnyH_done (by kernel_rfl) ?_ _
            go_wp2_with fail
            go_ret3
            rw [e1.out]
            exact ⟨_, _, rfl, o1.old, o2.old, b1.trans (bel_.mono b1.size)⟩
      · have kA : (a == 42) = true := by simp [ka]
        have kB : (b == 2) = false := by simp [kb]
        have e1 := Lib.hid (show opn p = ([], [], 51) by rw [e0.out, if_neg (by simp [ka]), if_pos kb])
        go_wp2_with fail
        go_ret3
        rw [e1.out]
        exact ⟨_, _, rfl, (Ob.nil _).old, (Ob.nil _).old, Below.refl _ _⟩
    · have kA : (a == 42) = false := by simp [ka]
      have e1 := Lib.hid (show opn p = ([], [], 50) by rw [e0.out, if_pos ka])
      go_wp2_with fail
      go_ret3
      rw [e1.out]
      exact ⟨_, _, rfl, (Ob.nil _).old, (Ob.nil _).old, Below.refl _ _⟩
end Go.Proofs.Ytgfhhnmhpncnlaa
