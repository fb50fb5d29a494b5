/-
  OctetPuts' walk: it returns true. No condition.
-/
import Derived.Test.YtgfhhnmhpncnlaaR
namespace Go.Proofs.Ytgfhhnmhpncnlaa
open Go.RowKit
set_option linter.unusedVariables false
set_option linter.unusedSimpArgs false

set_option maxRecDepth 100000 in
set_option maxHeartbeats 12800000 in
theorem OctetPuts_walk (v0 : Value) (l0 : List Int) (v1 : Value) (l1 : List Int) (v2 : Value) (l2 : List Int) (v3 : Value) (l3 : List Int) (v4 : Value) (ms : List (List Int)) {w : World}
    (h0 : Row w (fun _ => False) 1 v0 l0.length (nums .u8 l0)) (f0 : ∀ x ∈ l0, (Lit.int .u8 x).wf = true) (y0 : l0.length * 1 ≤ 140737488351232)
    (h1 : Row w (fun _ => False) 1 v1 l1.length (nums .u8 l1)) (f1 : ∀ x ∈ l1, (Lit.int .u8 x).wf = true) (y1 : l1.length * 1 ≤ 140737488351232)
    (h2 : Row w (fun _ => False) 1 v2 l2.length (nums .u16 l2)) (f2 : ∀ x ∈ l2, (Lit.int .u16 x).wf = true) (y2 : l2.length * 2 ≤ 140737488351232)
    (h3 : Row w (fun _ => False) 1 v3 l3.length (nums .u32 l3)) (f3 : ∀ x ∈ l3, (Lit.int .u32 x).wf = true) (y3 : l3.length * 4 ≤ 140737488351232)
    (h4 : RowsB w (fun _ => False) v4 ms ∧ ∀ m ∈ ms, m.length ≤ 140737488351232) (w' : World) (hw : w' = w) :
    Calls Try.prog 7 #[v0, v1, v2, v3, v4] w' fun e w' => e = .returned (.bool true) ∧ Below w.heap.size w w' := by
  subst hw
  obtain ⟨h4, hbm⟩ := h4
  have g0 := (bs_of_row h0 f0).out
  have g1 := (bs_of_row h1 f1).out
  have G1 := h1.out
  have g2 := h2.out
  have g3 := h3.out
  have g4 := h4.out
  obtain ⟨-, -, -, -, -, -, n1, -⟩ := id g1
  have n2 := isN_u16 f2
  have n3 := isN_u32 f3
  obtain ⟨A0, c0, rfl, -⟩ := h0.head
  obtain ⟨A1, c1, rfl, -⟩ := h1.head
  obtain ⟨A2, c2, rfl, -⟩ := h2.head
  obtain ⟨A3, c3, rfl, -⟩ := h3.head
  have hh4 := h4
  obtain ⟨vs, hh4, -⟩ := hh4
  obtain ⟨A4, c4, rfl, -⟩ := hh4.head
  clear h0 h1 h2 h3 f0 f1 f2 f3 hh4
  have hbm := Lib.hid hbm
  go_enter Try.func7, Try.ntmps7
  go_upto_block 0 with fail
  go_cut [11, 12] (fun s i W => w' = W ∧ ∃ t : Nat, s = .int .i64 t ∧ Hid (60 < ms.length ∨ t = l0.length + ms.flatten.length))
  case first =>
    go_wp2_with fail
    go_loopw [11, 12] (fun s i wr => wr = w' ∧ ∃ j t : Nat, j ≤ ms.length ∧ j ≤ 61 ∧ i = .int .i64 j ∧ s = .int .i64 t ∧ Hid (t = l0.length + (ms.take j).flatten.length) ∧ t ≤ 140737488351232 * (j + 1)) (fun _ i _ => ms.length - (intOf i).toNat)
    case atStart => exact ⟨rfl, 0, l0.length, Nat.zero_le _, by omega, rfl, rfl, Lib.hid (by simp), by omega⟩
    case round =>
      obtain ⟨rfl, j, t, hj, hj2, rfl, rfl, ht, hb⟩ := hrel
      by_cases hlt : j < ms.length
      · have e1 : decide (j < ms.length) = true := by simp; omega
        by_cases h60 : j ≤ 60
        · have e2 : decide (j ≤ 60) = true := by simp; omega
          obtain ⟨vs, hx, hvs⟩ := id h4
          obtain ⟨b, o, rfl, p1, p2, p3⟩ := hx.at_ (by omega)
          have hvl : j < vs.length := by have := hx.1; omega
          have hget : vs[j]? = some vs[j] := List.getElem?_eq_getElem hvl
          have hc := p3 j _ hget
          have hbs := (hvs j _ hget)
          have hL : (ms.getD j []).length ≤ 140737488351232 := by rw [List.getD_eq_getElem?_getD, List.getElem?_eq_getElem hlt]; exact hbm.out _ (List.getElem_mem hlt)
          have hs := Lib.hid (flat_snoc ms j hlt)
          generalize ms.getD j [] = y at *
          generalize vs[j] = u at *
          clear hget p3 hvs hx p1 p2
          obtain ⟨A5, c5, rfl, -⟩ := id hbs
          have hw2 : IntKind.i64.wrap ((t : Int) + y.length) = (t : Int) + y.length := IntWalk.i64_in _ (by omega)
          go_wp2_with fail
          go_roundw
          case rel => exact ⟨by first | rfl | trivial, j + 1, t + y.length, by omega, by omega, by go_num, by simp, Lib.hid (by rw [ht.out, hs.out, List.length_append]; omega), by omega⟩
          case measure => simp [intOf]; omega
        · have e2 : decide (j ≤ 60) = false := by simp; omega
          go_wp2_with fail
          go_meet
          exact ⟨rfl, t, rfl, Lib.hid (.inl (by omega))⟩
      · have e1 : decide (j < ms.length) = false := by simp; omega
        obtain rfl : j = ms.length := by omega
        go_wp2_with fail
        go_meet
        exact ⟨rfl, t, rfl, Lib.hid (.inr (by rw [ht.out, List.take_length]))⟩
  case rest =>
    obtain ⟨rfl, t, rfl, ht⟩ := hcut
    by_cases k0 : 20000 < t
    · have e0 : decide (20000 < t) = true := by simp; omega
      go_wp2_with (go_at_call 13; refine (live_any _).mono ?_; rintro e wl ⟨rfl, hfl⟩)
      go_ret
      exact ⟨rfl, hfl.below (fun _ h => h.elim)⟩
    have e0 : decide (20000 < t) = false := by simp; omega
    by_cases k1 : 60 < l1.length
    · have e1 : decide (60 < l1.length) = true := by simp; omega
      go_wp2_with (go_at_call 13; refine (live_any _).mono ?_; rintro e wl ⟨rfl, hfl⟩)
      go_ret
      exact ⟨rfl, hfl.below (fun _ h => h.elim)⟩
    have e1 : decide (60 < l1.length) = false := by simp; omega
    by_cases k2 : 60 < l2.length
    · have e2 : decide (60 < l2.length) = true := by simp; omega
      go_wp2_with (go_at_call 13; refine (live_any _).mono ?_; rintro e wl ⟨rfl, hfl⟩)
      go_ret
      exact ⟨rfl, hfl.below (fun _ h => h.elim)⟩
    have e2 : decide (60 < l2.length) = false := by simp; omega
    by_cases k3 : 60 < l3.length
    · have e3 : decide (60 < l3.length) = true := by simp; omega
      go_wp2_with (go_at_call 13; refine (live_any _).mono ?_; rintro e wl ⟨rfl, hfl⟩)
      go_ret
      exact ⟨rfl, hfl.below (fun _ h => h.elim)⟩
    have e3 : decide (60 < l3.length) = false := by simp; omega
    by_cases k4 : 60 < ms.length
    · have e4 : decide (60 < ms.length) = true := by simp; omega
      go_wp2_with (go_at_call 13; refine (live_any _).mono ?_; rintro e wl ⟨rfl, hfl⟩)
      go_ret
      exact ⟨rfl, hfl.below (fun _ h => h.elim)⟩
    have e4 : decide (60 < ms.length) = false := by simp; omega
    have hT : t = l0.length + ms.flatten.length := by rcases ht.out with h | h; omega; exact h
    have b0 : l0.length + ms.flatten.length ≤ 20000 := by omega
    clear hT ht hbm
    have B0 := l0.length
    go_wp2_with (first
      | (at_builtin; refine wpList_cloneB rfl (.tmp 63) (.tmp 64) rfl rfl rfl g0 (by omega) ?_; intro x1 w1 o1 lo1 b1)
      | (at_builtin; refine wpList_cloneB rfl (.tmp 66) (.tmp 67) rfl rfl rfl (g0.later b1) (by omega) ?_; intro x2 w2 o2 lo2 b2; have B2 := b1.trans (b2.mono b1.size))
      | (at_builtin; refine wpList_cloneB rfl (.tmp 69) (.tmp 70) rfl rfl rfl (g0.later B2) (by omega) ?_; intro x3 w3 o3 lo3 b3; have B3 := B2.trans (b3.mono B2.size))
      | (at_builtin; refine wpList_cloneB rfl (.tmp 72) (.tmp 73) rfl rfl rfl (g0.later B3) (by omega) ?_; intro x4 w4 o4 lo4 b4; have B4 := B3.trans (b4.mono B3.size)))
    have s1 := o1.lt
    have s2 := o2.lt
    have s3 := o3.lt
    have s4 := o4.lt
    have z1 := b1.size
    have z2 := b2.size
    have z3 := b3.size
    have z4 := b4.size
    have q1 := ((o1.below b2 s1).below b3 (fun b h => Nat.lt_of_lt_of_le (s1 b h) z2)).below b4 (fun b h => Nat.lt_of_lt_of_le (s1 b h) (Nat.le_trans z2 z3))
    have q2 := (o2.below b3 s2).below b4 (fun b h => Nat.lt_of_lt_of_le (s2 b h) z3)
    have q3 := o3.below b4 s3
    have L1 : Lo w'.heap.size x1 := lo1
    have L2 : Lo w'.heap.size x2 := lo2.mono z1
    have L3 : Lo w'.heap.size x3 := lo3.mono (by omega)
    have L4 : Lo w'.heap.size x4 := lo4.mono (by omega)
    have d12 : ∀ b, x1.ownBlock = some b → x2.ownBlock = some b → False := fun b h k => by have := s1 b h; have := lo2 b k; omega
    have d13 : ∀ b, x1.ownBlock = some b → x3.ownBlock = some b → False := fun b h k => by have := s1 b h; have := lo3 b k; omega
    have d14 : ∀ b, x1.ownBlock = some b → x4.ownBlock = some b → False := fun b h k => by have := s1 b h; have := lo4 b k; omega
    have d23 : ∀ b, x2.ownBlock = some b → x3.ownBlock = some b → False := fun b h k => by have := s2 b h; have := lo3 b k; omega
    have d24 : ∀ b, x2.ownBlock = some b → x4.ownBlock = some b → False := fun b h k => by have := s2 b h; have := lo4 b k; omega
    have d34 : ∀ b, x3.ownBlock = some b → x4.ownBlock = some b → False := fun b h k => by have := s3 b h; have := lo4 b k; omega
    have s1 : ∀ b, x1.ownBlock = some b → b < w4.heap.size := q1.lt
    have s2 : ∀ b, x2.ownBlock = some b → b < w4.heap.size := q2.lt
    have s3 : ∀ b, x3.ownBlock = some b → b < w4.heap.size := q3.lt
    have G1 := G1.later B4
    have g0 := g0.later B4
    have g1 := g1.later B4
    have g2 := g2.later B4
    have g3 := g3.later B4
    have g4 := g4.later B4
    have Z4 := B4.size
    clear o1 o2 o3 lo1 lo2 lo3 lo4 b1 b2 b3 b4 B2 B3 z1 z2 z3 z4 h4
    have Hd := Lib.hid (And.intro d12 (And.intro d13 (And.intro d14 (And.intro d23 (And.intro d24 d34)))))
    have Hs := Lib.hid (And.intro s1 (And.intro s2 (And.intro s3 s4)))
    clear d12 d13 d14 d23 d24 d34 s1 s2 s3 s4
    go_loopw [13, 17] (fun u i wr => ∃ j : Nat, j ≤ l1.length ∧ i = .int .i64 j ∧ Ob wr u (l0 ++ putAll 1 (l1.take j)) ∧ Nx w4 x1 u ∧ FrV x1 w4 wr) (fun _ i _ => l1.length - (intOf i).toNat)
    case atStart => exact ⟨0, Nat.zero_le _, rfl, by simpa [putAll] using q1, Nx.refl _ _, Fr.refl _ _⟩
    case round =>
      obtain ⟨j, hj, rfl, ho, hn, hf⟩ := hrel
      by_cases hlt : j < l1.length
      · obtain ⟨b, o, rfl, p1, p2, p3⟩ := G1.at_ (by omega)
        have hc := p3 j _ (nums_at .u8 l1 hlt)
        have hc' : wr.cell? ⟨b, o + j, none⟩ = _ := hf.cell hc (fun hb => p1 (L1 b hb))
        have hr := n1 _ (getD_mem hlt)
        have hs := Lib.hid (putAll_snoc 1 l1 j hlt)
        have hlen : (l0 ++ putAll 1 (l1.take j)).length + 1 ≤ 140737488355328 := by rw [List.length_append, putAll_length, List.length_take]; omega
        generalize l1.getD j 0 = y at *
        clear p3
        have HU := RPut_any ho y hr.1 (by omega) 1 (by decide) hlen
        go_wp2_with (go_at_call 35; refine HU.mono ?_; rintro e w9 ⟨v9, rfl, ho1, hn1, hf1⟩)
        go_roundw
        case rel => exact ⟨j + 1, by omega, by go_num, by rw [hs.out, ← List.append_assoc]; exact ho1, hn.trans hn1 hf.size, hf.step hn hf1⟩
        case measure => simp [intOf]; omega
      · obtain rfl : j = l1.length := by omega
        rw [List.take_length, putAll_one n1] at ho
        have b5 := hf.belowB L1 Z4
        have q2 := q2.fr hf (fun b h k => Hd.out.1 b k h)
        have q3 := q3.fr hf (fun b h k => Hd.out.2.1 b k h)
        have q4 := o4.fr hf (fun b h k => Hd.out.2.2.1 b k h)
        have G2 := g2.later b5
        have zA := hf.size
        have r1 := ho
        have N1 := hn
        have hfA := hf
        clear ho hn hf hlt hj
        obtain ⟨wA, rfl⟩ : ∃ x, x = wr := ⟨_, rfl⟩
        go_wp2_with fail
        go_loopw [14, 18] (fun u i wr => ∃ j : Nat, j ≤ l2.length ∧ i = .int .i64 j ∧ Ob wr u (l0 ++ putAll 2 (l2.take j)) ∧ Nx wA x2 u ∧ FrV x2 wA wr) (fun _ i _ => l2.length - (intOf i).toNat)
        case atStart => exact ⟨0, Nat.zero_le _, rfl, by simpa [putAll] using q2, Nx.refl _ _, Fr.refl _ _⟩
        case round =>
          obtain ⟨j, hj, rfl, ho, hn, hf⟩ := hrel
          by_cases hlt : j < l2.length
          · obtain ⟨b, o, rfl, p1, p2, p3⟩ := G2.at_ (by omega)
            have hc := p3 j _ (nums_at .u16 l2 hlt)
            have hc' : wr.cell? ⟨b, o + j, none⟩ = _ := hf.cell hc (fun hb => p1 (L2 b hb))
            have hr := n2 _ (getD_mem hlt)
            have hs := Lib.hid (putAll_snoc 2 l2 j hlt)
            have hlen : (l0 ++ putAll 2 (l2.take j)).length + 2 ≤ 140737488355328 := by rw [List.length_append, putAll_length, List.length_take]; omega
            generalize l2.getD j 0 = y at *
            clear p3
            have HU := RPut_any ho y hr.1 (by omega) 2 (by decide) hlen
            go_wp2_with (go_at_call 35; refine HU.mono ?_; rintro e w9 ⟨v9, rfl, ho1, hn1, hf1⟩)
            go_roundw
            case rel => exact ⟨j + 1, by omega, by go_num, by rw [hs.out, ← List.append_assoc]; exact ho1, hn.trans hn1 hf.size, hf.step hn hf1⟩
            case measure => simp [intOf]; omega
          · obtain rfl : j = l2.length := by omega
            rw [List.take_length] at ho
            have b6 := b5.trans (hf.belowB L2 (Nat.le_trans Z4 zA))
            have r1 := r1.keep N1 hf Hd.out.1 Hs.out.2.1
            have q3 := q3.fr hf (fun b h k => Hd.out.2.2.2.1 b k h)
            have q4 := q4.fr hf (fun b h k => Hd.out.2.2.2.2.1 b k h)
            have G3 := g3.later b6
            have zB := hf.size
            have r2 := ho
            have N2 := hn
            clear ho hn hf hlt hj
            obtain ⟨wB, rfl⟩ : ∃ x, x = wr := ⟨_, rfl⟩
            go_wp2_with fail
            go_loopw [15, 19] (fun u i wr => ∃ j : Nat, j ≤ l3.length ∧ i = .int .i64 j ∧ Ob wr u (l0 ++ putAll 4 (l3.take j)) ∧ Nx wB x3 u ∧ FrV x3 wB wr) (fun _ i _ => l3.length - (intOf i).toNat)
            case atStart => exact ⟨0, Nat.zero_le _, rfl, by simpa [putAll] using q3, Nx.refl _ _, Fr.refl _ _⟩
            case round =>
              obtain ⟨j, hj, rfl, ho, hn, hf⟩ := hrel
              by_cases hlt : j < l3.length
              · obtain ⟨b, o, rfl, p1, p2, p3⟩ := G3.at_ (by omega)
                have hc := p3 j _ (nums_at .u32 l3 hlt)
                have hc' : wr.cell? ⟨b, o + j, none⟩ = _ := hf.cell hc (fun hb => p1 (L3 b hb))
                have hr := n3 _ (getD_mem hlt)
                have hs := Lib.hid (putAll_snoc 4 l3 j hlt)
                have hlen : (l0 ++ putAll 4 (l3.take j)).length + 4 ≤ 140737488355328 := by rw [List.length_append, putAll_length, List.length_take]; omega
                generalize l3.getD j 0 = y at *
                clear p3
                have HU := RPut_any ho y hr.1 (by omega) 4 (by decide) hlen
                go_wp2_with (go_at_call 35; refine HU.mono ?_; rintro e w9 ⟨v9, rfl, ho1, hn1, hf1⟩)
                go_roundw
                case rel => exact ⟨j + 1, by omega, by go_num, by rw [hs.out, ← List.append_assoc]; exact ho1, hn.trans hn1 hf.size, hf.step hn hf1⟩
                case measure => simp [intOf]; omega
              · obtain rfl : j = l3.length := by omega
                rw [List.take_length] at ho
                have b7 := b6.trans (hf.belowB L3 (Nat.le_trans Z4 (Nat.le_trans zA zB)))
                have r1 := r1.keep N1 hf Hd.out.2.1 Hs.out.2.2.1
                have r2 := r2.keep N2 hf Hd.out.2.2.2.1 (fun b h => Nat.lt_of_lt_of_le (Hs.out.2.2.1 b h) zA)
                have q4 := q4.fr hf (fun b h k => Hd.out.2.2.2.2.2 b k h)
                have G4 := g4.later b7
                have zC := hf.size
                have r3 := ho
                have N3 := hn
                clear ho hn hf hlt hj
                obtain ⟨wC, rfl⟩ : ∃ x, x = wr := ⟨_, rfl⟩
                go_wp2_with fail
                go_loopw [16, 20] (fun u i wr => ∃ j : Nat, j ≤ ms.length ∧ i = .int .i64 j ∧ Ob wr u (l0 ++ (ms.take j).flatten) ∧ Nx wC x4 u ∧ FrV x4 wC wr) (fun _ i _ => ms.length - (intOf i).toNat)
                case atStart => exact ⟨0, Nat.zero_le _, rfl, by simpa using q4, Nx.refl _ _, Fr.refl _ _⟩
                case round =>
                  obtain ⟨j, hj, rfl, ho, hn, hf⟩ := hrel
                  by_cases hlt : j < ms.length
                  · obtain ⟨vs, hx, hvs⟩ := id G4
                    obtain ⟨b, o, rfl, p1, p2, p3⟩ := hx.at_ (by omega)
                    have hvl : j < vs.length := by have := hx.1; omega
                    have hget : vs[j]? = some vs[j] := List.getElem?_eq_getElem hvl
                    have hc := p3 j _ hget
                    have hbs := (hvs j _ hget).fr hf (fun b _ hb => L4 b hb)
                    have hc' : wr.cell? ⟨b, o + j, none⟩ = _ := hf.cell hc (fun hb => p1 (L4 b hb))
                    have hs := Lib.hid (flat_snoc ms j hlt)
                    have hlen : (l0 ++ (ms.take j).flatten).length + (ms.getD j []).length ≤ 140737488355328 := by rw [List.length_append]; have := flat_le ms j hlt; omega
                    generalize ms.getD j [] = y at *
                    generalize vs[j] = u at *
                    clear hget p3 hvs hx
                    obtain ⟨A5, c5, rfl, -⟩ := id hbs
                    go_wp2_with (at_builtin; refine wpList_appB rfl (.tmp 119) (.tmp 123) rfl rfl ho rfl hbs hlen ?_; intro v9 w9 ho1 hn1 hf1)
                    go_roundw
                    case rel => exact ⟨j + 1, by omega, by go_num, by rw [hs.out, ← List.append_assoc]; exact ho1, hn.trans hn1 hf.size, hf.step hn hf1⟩
                    case measure => simp [intOf]; omega
                  · obtain rfl : j = ms.length := by omega
                    rw [List.take_length] at ho
                    have b8 := b7.trans (hf.belowB L4 (Nat.le_trans Z4 (Nat.le_trans zA (Nat.le_trans zB zC))))
                    have r1 := r1.keep N1 hf Hd.out.2.2.1 Hs.out.2.2.2
                    have r2 := r2.keep N2 hf Hd.out.2.2.2.2.1 (fun b h => Nat.lt_of_lt_of_le (Hs.out.2.2.2 b h) zA)
                    have r3 := r3.keep N3 hf Hd.out.2.2.2.2.2 (fun b h => Nat.lt_of_lt_of_le (Hs.out.2.2.2 b h) (Nat.le_trans zA zB))
                    have r4 := ho
                    have B8 := B4.trans b8
                    have Z8 := B8.size
                    have hz : InP w' w'.heap.size wr.heap.size (.slice A0 l0.length c0) (.slice A1 l1.length c1) (.slice A2 l2.length c2) (.slice A3 l3.length c3) (.slice A4 ms.length c4) l0 l1 l2 l3 ms wr :=
                      ⟨B8, (g0.later b8).mono_l rfl (fun b h => Nat.le_trans Z8 h), (g1.later b8).mono_l rfl (fun b h => Nat.le_trans Z8 h), (g2.later b8).mono (fun b h => Nat.le_trans Z8 h), (g3.later b8).mono (fun b h => Nat.le_trans Z8 h), (g4.later b8).mono (fun b h => Nat.le_trans Z8 h), Nat.le_refl _⟩
                    obtain ⟨R1, hR1⟩ : ∃ R, Hid (R = l0 ++ l1) := ⟨_, Lib.hid rfl⟩
                    obtain ⟨R2, hR2⟩ : ∃ R, Hid (R = l0 ++ putAll 2 l2) := ⟨_, Lib.hid rfl⟩
                    obtain ⟨R3, hR3⟩ : ∃ R, Hid (R = l0 ++ putAll 4 l3) := ⟨_, Lib.hid rfl⟩
                    obtain ⟨R4, hR4⟩ : ∃ R, Hid (R = l0 ++ ms.flatten) := ⟨_, Lib.hid rfl⟩
                    rw [← hR1.out] at r1
                    rw [← hR2.out] at r2
                    rw [← hR3.out] at r3
                    rw [← hR4.out] at r4
                    obtain ⟨A6, c6, rfl⟩ := r1.slice
                    obtain ⟨A7, c7, rfl⟩ := r2.slice
                    obtain ⟨A8, c8, rfl⟩ := r3.slice
                    obtain ⟨A9, c9, rfl⟩ := r4.slice
                    have hC : ∀ W, Below wr.heap.size wr W → ((convert 22 9 (.slice A6 R1.length c6)).run Try.prog W = .ok (.string (strOfNums R1)) W ∧ (convert 22 9 (.slice A7 R2.length c7)).run Try.prog W = .ok (.string (strOfNums R2)) W ∧ (convert 22 9 (.slice A8 R3.length c8)).run Try.prog W = .ok (.string (strOfNums R3)) W ∧ (convert 22 9 (.slice A9 R4.length c9)).run Try.prog W = .ok (.string (strOfNums R4)) W) ∧ InP w' w'.heap.size wr.heap.size (.slice A0 l0.length c0) (.slice A1 l1.length c1) (.slice A2 l2.length c2) (.slice A3 l3.length c3) (.slice A4 ms.length c4) l0 l1 l2 l3 ms W := fun W h => ⟨⟨conv_str (r1.old.later h), conv_str (r2.old.later h), conv_str (r3.old.later h), conv_str (r4.old.later h)⟩, hz.later h Z8⟩
                    have hStart := And.intro (hC _ (Below.refl _ _).drew).1 (show Ev (fun W => ((convert 22 9 (.slice A6 R1.length c6)).run Try.prog W = .ok (.string (strOfNums R1)) W ∧ (convert 22 9 (.slice A7 R2.length c7)).run Try.prog W = .ok (.string (strOfNums R2)) W ∧ (convert 22 9 (.slice A8 R3.length c8)).run Try.prog W = .ok (.string (strOfNums R3)) W ∧ (convert 22 9 (.slice A9 R4.length c9)).run Try.prog W = .ok (.string (strOfNums R4)) W) ∧ InP w' w'.heap.size wr.heap.size (.slice A0 l0.length c0) (.slice A1 l1.length c1) (.slice A2 l2.length c2) (.slice A3 l3.length c3) (.slice A4 ms.length c4) l0 l1 l2 l3 ms W) wr.drew from fun W h => hC W ((Below.refl _ _).drew.trans h))
                    clear hC hz r1 r2 r3 r4 ho hn hf hfA hj hlt q2 q3 q4 q1 G1 G2 G3 G4 g0 g1 g2 g3 g4 o4 N1 N2 N3 L1 L2 L3 L4 Hd Hs b5 b6 b7 b8 B4 B8 zA zB zC Z4
                    go_wp2_with fail
                    refine wp_region_held_drew (S := (fun W => ((convert 22 9 (.slice A6 R1.length c6)).run Try.prog W = .ok (.string (strOfNums R1)) W ∧ (convert 22 9 (.slice A7 R2.length c7)).run Try.prog W = .ok (.string (strOfNums R2)) W ∧ (convert 22 9 (.slice A8 R3.length c8)).run Try.prog W = .ok (.string (strOfNums R3)) W ∧ (convert 22 9 (.slice A9 R4.length c9)).run Try.prog W = .ok (.string (strOfNums R4)) W) ∧ Ev (fun W => ((convert 22 9 (.slice A6 R1.length c6)).run Try.prog W = .ok (.string (strOfNums R1)) W ∧ (convert 22 9 (.slice A7 R2.length c7)).run Try.prog W = .ok (.string (strOfNums R2)) W ∧ (convert 22 9 (.slice A8 R3.length c8)).run Try.prog W = .ok (.string (strOfNums R3)) W ∧ (convert 22 9 (.slice A9 R4.length c9)).run Try.prog W = .ok (.string (strOfNums R4)) W) ∧ InP w' w'.heap.size wr.heap.size (.slice A0 l0.length c0) (.slice A1 l1.length c1) (.slice A2 l2.length c2) (.slice A3 l3.length c3) (.slice A4 ms.length c4) l0 l1 l2 l3 ms W) W)) (by kernel_rfl) (hStart) (fun hHeld => ?_)
                    refine wpAnyH_take (i := 1) (oi := { dst := (some 126), op := (Op.move (Operand.tmp 0)), type := 22, pos := "law.go:55", after := #[], guard := none }) (v := ?_) rfl (by kernel_rfl) (by kernel_rfl) (by kernel_rfl) (fun _ _ _ h => h) (Or.inl ⟨by rfl, ?_⟩) (by assumption) ?_
                    rotate_left
                    · intro w hSw
                      (try dsimp only at hSw)
                      go_simp
                      with_reducible rfl
                    (try simp only [Act.put, List.setIfInBounds_toArray, List.set_cons_zero, List.set_cons_succ])
                    refine wpAnyH_take (i := 3) (oi := { dst := (some 128), op := (Op.move (Operand.tmp 1)), type := 22, pos := "law.go:55", after := #[], guard := none }) (v := ?_) rfl (by kernel_rfl) (by kernel_rfl) (by kernel_rfl) (fun _ _ _ h => h) (Or.inl ⟨by rfl, ?_⟩) (by assumption) ?_
                    rotate_left
                    · intro w hSw
                      (try dsimp only at hSw)
                      go_simp
                      with_reducible rfl
                    (try simp only [Act.put, List.setIfInBounds_toArray, List.set_cons_zero, List.set_cons_succ])
                    refine wpAnyH_take (i := 6) (oi := { dst := (some 131), op := (Op.move (Operand.tmp 13)), type := 22, pos := "law.go:55", after := #[], guard := none }) (v := ?_) rfl (by kernel_rfl) (by kernel_rfl) (by kernel_rfl) (fun _ _ _ h => h) (Or.inl ⟨by rfl, ?_⟩) (by assumption) ?_
                    rotate_left
                    · intro w hSw
                      (try dsimp only at hSw)
                      go_simp
                      with_reducible rfl
                    (try simp only [Act.put, List.setIfInBounds_toArray, List.set_cons_zero, List.set_cons_succ])
                    refine wpAnyH_take (i := 7) (oi := { dst := (some 132), op := (Op.convert 22 9 (Operand.tmp 131)), type := 9, pos := "law.go:55", after := #[{ on := 6, ground := Ground.data }], guard := none }) (v := ?_) rfl (by kernel_rfl) (by kernel_rfl) (by kernel_rfl) (fun _ _ _ h => h) (Or.inl ⟨by rfl, ?_⟩) (by assumption) ?_
                    rotate_left
                    · intro w hSw
                      (try dsimp only at hSw)
                      go_simp
                      with_reducible rfl
                    (try simp only [Act.put, List.setIfInBounds_toArray, List.set_cons_zero, List.set_cons_succ])
                    refine wpAnyH_ready (rs := [0]) (by kernel_rfl) (by simp) ?_
                    refine AllReadyH.cons (o := { dst := (some 125), op := (Op.buildSlice 22 0 #[]), type := 22, pos := "law.go:55", after := #[], guard := none }) rfl (fun K hK => ?_) AllReadyH.nil
                    have hE1 := hHeld
                    have hz1 := (hE1.2.go (Below.refl _ _)).1.2
                    have hD1 := hz1.big
                    go_simp
                    refine hK.out _ _ ?_ (fun hHeld => ?_)
                    · exact Ev.both hE1.2 ((Below.refl _ _).alloc (Nat.le_refl _) _)
                    clear hK K
                    (try simp only [Act.put, List.setIfInBounds_toArray, List.set_cons_zero, List.set_cons_succ])
                    refine wpAnyH_ready (rs := [2]) (by kernel_rfl) (by simp) ?_
                    refine AllReadyH.cons (o := { dst := (some 127), op := (Op.call { callee := (Callee.builtin Builtin.append), args := #[(Operand.tmp 125), (Operand.tmp 126)], argTypes := #[22, 22] }), type := 22, pos := "law.go:55", after := #[{ on := 0, ground := Ground.data }, { on := 1, ground := Ground.data }], guard := none }) rfl (fun K hK => ?_) AllReadyH.nil
                    refine wanted_go (by rfl) ?_
                    change Oper.wp Try.prog _ _ (World.alloc wr.drew (.cells #[] 5)) _ _
                    refine wp_cloneB (.tmp 125) (.tmp 126) rfl rfl rfl hz1.r0 (show l0.length ≤ 140737488355328 by omega) ?_
                    intro y1 Wa1 oy1 ly1 by1
                    have hq1 := (hE1.2.go by1).1.2
                    have hq1D := hD1
                    refine hK.out _ _ ?_ (fun hHeld => ?_)
                    · exact Ev.both hE1.2 by1
                    clear hK K
                    (try simp only [Act.put, List.setIfInBounds_toArray, List.set_cons_zero, List.set_cons_succ])
                    refine wpAnyH_ready (rs := [4]) (by kernel_rfl) (by simp) ?_
                    refine AllReadyH.cons (o := { dst := (some 129), op := (Op.call { callee := (Callee.value (Operand.func 34)), args := #[(Operand.tmp 127), (Operand.tmp 128)], argTypes := #[22, 22] }), type := 22, pos := "law.go:55", after := #[{ on := 2, ground := Ground.data }, { on := 3, ground := Ground.data }, { on := 2, ground := Ground.chain }], guard := none }) rfl (fun K hK => ?_) AllReadyH.nil
                    go_simp
                    refine (Put8_any oy1 (hq1.r1) (by omega)).mono ?_
                    rintro e Wb1 ⟨z1, rfl, oz1, nz1, fz1⟩
                    have bz1 := by1.trans (fz1.belowB ly1 by1.size)
                    rw [← hR1.out] at oz1
                    obtain ⟨Ay1, cy1, rfl⟩ := oz1.slice
                    refine hK.out _ _ ?_ (fun hHeld => ?_)
                    · exact Ev.both hE1.2 bz1
                    clear hK K
                    (try simp only [Act.put, List.setIfInBounds_toArray, List.set_cons_zero, List.set_cons_succ])
                    refine wpAnyH_more (S' := (fun W => ((((convert 22 9 (.slice A6 R1.length c6)).run Try.prog W = .ok (.string (strOfNums R1)) W ∧ (convert 22 9 (.slice A7 R2.length c7)).run Try.prog W = .ok (.string (strOfNums R2)) W ∧ (convert 22 9 (.slice A8 R3.length c8)).run Try.prog W = .ok (.string (strOfNums R3)) W ∧ (convert 22 9 (.slice A9 R4.length c9)).run Try.prog W = .ok (.string (strOfNums R4)) W) ∧ Ev (fun W => ((convert 22 9 (.slice A6 R1.length c6)).run Try.prog W = .ok (.string (strOfNums R1)) W ∧ (convert 22 9 (.slice A7 R2.length c7)).run Try.prog W = .ok (.string (strOfNums R2)) W ∧ (convert 22 9 (.slice A8 R3.length c8)).run Try.prog W = .ok (.string (strOfNums R3)) W ∧ (convert 22 9 (.slice A9 R4.length c9)).run Try.prog W = .ok (.string (strOfNums R4)) W) ∧ InP w' w'.heap.size wr.heap.size (.slice A0 l0.length c0) (.slice A1 l1.length c1) (.slice A2 l2.length c2) (.slice A3 l3.length c3) (.slice A4 ms.length c4) l0 l1 l2 l3 ms W) W) ∧ ((convert 22 9 (.slice Ay1 R1.length cy1)).run Try.prog W = .ok (.string (strOfNums R1)) W ∧ Ev (fun W => (convert 22 9 (.slice Ay1 R1.length cy1)).run Try.prog W = .ok (.string (strOfNums R1)) W) W)))) (fun _ h => h.1) ?_
                    have hM1 := And.intro hHeld (And.intro (conv_str oz1.old) (show Ev (fun W => (convert 22 9 (.slice Ay1 R1.length cy1)).run Try.prog W = .ok (.string (strOfNums R1)) W) _ from fun W h => conv_str (oz1.old.later h)))
                    clear hHeld
                    have hHeld := hM1
                    clear hM1
                    refine wpAnyH_take (i := 5) (oi := { dst := (some 130), op := (Op.convert 22 9 (Operand.tmp 129)), type := 9, pos := "law.go:55", after := #[{ on := 4, ground := Ground.data }], guard := none }) (v := ?_) rfl (by kernel_rfl) (by kernel_rfl) (by kernel_rfl) (fun _ _ _ h => h) (Or.inl ⟨by rfl, ?_⟩) (by assumption) ?_
                    rotate_left
                    · intro w hSw
                      (try dsimp only at hSw)
                      go_simp
                      with_reducible rfl
                    (try simp only [Act.put, List.setIfInBounds_toArray, List.set_cons_zero, List.set_cons_succ])
                    refine wpAnyH_take (i := 8) (oi := { dst := (some 133), op := (Op.binOp BinOp.eql 9 (Operand.tmp 130) (Operand.tmp 132) 9), type := 4, pos := "law.go:55", after := #[{ on := 5, ground := Ground.data }, { on := 7, ground := Ground.data }], guard := none }) (v := ?_) rfl (by kernel_rfl) (by kernel_rfl) (by kernel_rfl) (fun _ _ _ h => h) (Or.inl ⟨by rfl, ?_⟩) (by assumption) ?_
                    rotate_left
                    · intro w hSw
                      (try dsimp only at hSw)
                      go_simp
                      with_reducible rfl
                    (try simp only [Act.put, List.setIfInBounds_toArray, List.set_cons_zero, List.set_cons_succ])
                    refine wpAnyH_take (i := 9) (oi := { dst := (some 134), op := (Op.move (Operand.tmp 133)), type := 4, pos := "law.go:55", after := #[{ on := 8, ground := Ground.data }, { on := 4, ground := Ground.chain }], guard := none }) (v := ?_) rfl (by kernel_rfl) (by kernel_rfl) (by kernel_rfl) (fun _ _ _ h => h) (Or.inl ⟨by rfl, ?_⟩) (by assumption) ?_
                    rotate_left
                    · intro w hSw
                      (try dsimp only at hSw)
                      go_simp
                      with_reducible rfl
                    (try simp only [Act.put, List.setIfInBounds_toArray, List.set_cons_zero, List.set_cons_succ])
                    refine wpAnyH_take (i := 11) (oi := { dst := (some 136), op := (Op.move (Operand.tmp 0)), type := 22, pos := "law.go:55", after := #[{ on := 9, ground := Ground.guard }], guard := (some (9, true)) }) (v := ?_) rfl (by kernel_rfl) (by kernel_rfl) (by kernel_rfl) (fun _ _ _ h => h) (Or.inl ⟨by rfl, ?_⟩) (by assumption) ?_
                    rotate_left
                    · intro w hSw
                      (try dsimp only at hSw)
                      go_simp
                      with_reducible rfl
                    (try simp only [Act.put, List.setIfInBounds_toArray, List.set_cons_zero, List.set_cons_succ])
                    refine wpAnyH_take (i := 13) (oi := { dst := (some 138), op := (Op.move (Operand.tmp 2)), type := 50, pos := "law.go:55", after := #[{ on := 9, ground := Ground.guard }], guard := (some (9, true)) }) (v := ?_) rfl (by kernel_rfl) (by kernel_rfl) (by kernel_rfl) (fun _ _ _ h => h) (Or.inl ⟨by rfl, ?_⟩) (by assumption) ?_
                    rotate_left
                    · intro w hSw
                      (try dsimp only at hSw)
                      go_simp
                      with_reducible rfl
                    (try simp only [Act.put, List.setIfInBounds_toArray, List.set_cons_zero, List.set_cons_succ])
                    refine wpAnyH_take (i := 16) (oi := { dst := (some 141), op := (Op.move (Operand.tmp 14)), type := 22, pos := "law.go:55", after := #[{ on := 9, ground := Ground.guard }], guard := (some (9, true)) }) (v := ?_) rfl (by kernel_rfl) (by kernel_rfl) (by kernel_rfl) (fun _ _ _ h => h) (Or.inl ⟨by rfl, ?_⟩) (by assumption) ?_
                    rotate_left
                    · intro w hSw
                      (try dsimp only at hSw)
                      go_simp
                      with_reducible rfl
                    (try simp only [Act.put, List.setIfInBounds_toArray, List.set_cons_zero, List.set_cons_succ])
                    refine wpAnyH_take (i := 17) (oi := { dst := (some 142), op := (Op.convert 22 9 (Operand.tmp 141)), type := 9, pos := "law.go:55", after := #[{ on := 16, ground := Ground.data }, { on := 9, ground := Ground.guard }], guard := (some (9, true)) }) (v := ?_) rfl (by kernel_rfl) (by kernel_rfl) (by kernel_rfl) (fun _ _ _ h => h) (Or.inl ⟨by rfl, ?_⟩) (by assumption) ?_
                    rotate_left
                    · intro w hSw
                      (try dsimp only at hSw)
                      go_simp
                      with_reducible rfl
                    (try simp only [Act.put, List.setIfInBounds_toArray, List.set_cons_zero, List.set_cons_succ])
                    refine wpAnyH_ready (rs := [10]) (by kernel_rfl) (by simp) ?_
                    refine AllReadyH.cons (o := { dst := (some 135), op := (Op.buildSlice 22 0 #[]), type := 22, pos := "law.go:55", after := #[{ on := 9, ground := Ground.guard }], guard := (some (9, true)) }) rfl (fun K hK => ?_) AllReadyH.nil
                    have hE2 := hHeld
                    have hz2 := (hE2.1.2.go (Below.refl _ _)).1.2
                    have hD2 := hz2.big
                    go_simp
                    refine hK.out _ _ ?_ (fun hHeld => ?_)
                    · exact ⟨Ev.both hE2.1.2 ((Below.refl _ _).alloc (Nat.le_refl _) _), hE2.2.2.go ((Below.refl _ _).alloc (Nat.le_refl _) _)⟩
                    clear hK K
                    (try simp only [Act.put, List.setIfInBounds_toArray, List.set_cons_zero, List.set_cons_succ])
                    refine wpAnyH_ready (rs := [12]) (by kernel_rfl) (by simp) ?_
                    refine AllReadyH.cons (o := { dst := (some 137), op := (Op.call { callee := (Callee.builtin Builtin.append), args := #[(Operand.tmp 135), (Operand.tmp 136)], argTypes := #[22, 22] }), type := 22, pos := "law.go:55", after := #[{ on := 10, ground := Ground.data }, { on := 11, ground := Ground.data }, { on := 9, ground := Ground.chain }, { on := 9, ground := Ground.guard }], guard := (some (9, true)) }) rfl (fun K hK => ?_) AllReadyH.nil
                    refine wanted_go (by rfl) ?_
                    refine wp_cloneB (.tmp 135) (.tmp 136) rfl rfl rfl hz2.r0 (show l0.length ≤ 140737488355328 by omega) ?_
                    intro y2 Wa2 oy2 ly2 by2
                    have hq2 := (hE2.1.2.go by2).1.2
                    have hq2D := hD2
                    refine hK.out _ _ ?_ (fun hHeld => ?_)
                    · exact ⟨Ev.both hE2.1.2 by2, hE2.2.2.go by2⟩
                    clear hK K
                    (try simp only [Act.put, List.setIfInBounds_toArray, List.set_cons_zero, List.set_cons_succ])
                    refine wpAnyH_ready (rs := [14]) (by kernel_rfl) (by simp) ?_
                    refine AllReadyH.cons (o := { dst := (some 139), op := (Op.call { callee := (Callee.value (Operand.func 33)), args := #[(Operand.tmp 137), (Operand.tmp 138)], argTypes := #[22, 50] }), type := 22, pos := "law.go:55", after := #[{ on := 12, ground := Ground.data }, { on := 13, ground := Ground.data }, { on := 12, ground := Ground.chain }, { on := 9, ground := Ground.guard }], guard := (some (9, true)) }) rfl (fun K hK => ?_) AllReadyH.nil
                    go_simp
                    refine (Put16_any oy2 (hq2.r2) (fun b hb => Nat.le_trans (hq2D) (ly2 b hb)) n2 (by omega)).mono ?_
                    rintro e Wb2 ⟨z2, rfl, oz2, nz2, fz2⟩
                    have bz2 := by2.trans (fz2.belowB ly2 by2.size)
                    rw [← hR2.out] at oz2
                    obtain ⟨Ay2, cy2, rfl⟩ := oz2.slice
                    refine hK.out _ _ ?_ (fun hHeld => ?_)
                    · exact ⟨Ev.both hE2.1.2 bz2, hE2.2.2.go bz2⟩
                    clear hK K
                    (try simp only [Act.put, List.setIfInBounds_toArray, List.set_cons_zero, List.set_cons_succ])
                    refine wpAnyH_more (S' := (fun W => (((((convert 22 9 (.slice A6 R1.length c6)).run Try.prog W = .ok (.string (strOfNums R1)) W ∧ (convert 22 9 (.slice A7 R2.length c7)).run Try.prog W = .ok (.string (strOfNums R2)) W ∧ (convert 22 9 (.slice A8 R3.length c8)).run Try.prog W = .ok (.string (strOfNums R3)) W ∧ (convert 22 9 (.slice A9 R4.length c9)).run Try.prog W = .ok (.string (strOfNums R4)) W) ∧ Ev (fun W => ((convert 22 9 (.slice A6 R1.length c6)).run Try.prog W = .ok (.string (strOfNums R1)) W ∧ (convert 22 9 (.slice A7 R2.length c7)).run Try.prog W = .ok (.string (strOfNums R2)) W ∧ (convert 22 9 (.slice A8 R3.length c8)).run Try.prog W = .ok (.string (strOfNums R3)) W ∧ (convert 22 9 (.slice A9 R4.length c9)).run Try.prog W = .ok (.string (strOfNums R4)) W) ∧ InP w' w'.heap.size wr.heap.size (.slice A0 l0.length c0) (.slice A1 l1.length c1) (.slice A2 l2.length c2) (.slice A3 l3.length c3) (.slice A4 ms.length c4) l0 l1 l2 l3 ms W) W) ∧ ((convert 22 9 (.slice Ay1 R1.length cy1)).run Try.prog W = .ok (.string (strOfNums R1)) W ∧ Ev (fun W => (convert 22 9 (.slice Ay1 R1.length cy1)).run Try.prog W = .ok (.string (strOfNums R1)) W) W)) ∧ ((convert 22 9 (.slice Ay2 R2.length cy2)).run Try.prog W = .ok (.string (strOfNums R2)) W ∧ Ev (fun W => (convert 22 9 (.slice Ay2 R2.length cy2)).run Try.prog W = .ok (.string (strOfNums R2)) W) W)))) (fun _ h => h.1) ?_
                    have hM2 := And.intro hHeld (And.intro (conv_str oz2.old) (show Ev (fun W => (convert 22 9 (.slice Ay2 R2.length cy2)).run Try.prog W = .ok (.string (strOfNums R2)) W) _ from fun W h => conv_str (oz2.old.later h)))
                    clear hHeld
                    have hHeld := hM2
                    clear hM2
                    refine wpAnyH_take (i := 15) (oi := { dst := (some 140), op := (Op.convert 22 9 (Operand.tmp 139)), type := 9, pos := "law.go:55", after := #[{ on := 14, ground := Ground.data }, { on := 9, ground := Ground.guard }], guard := (some (9, true)) }) (v := ?_) rfl (by kernel_rfl) (by kernel_rfl) (by kernel_rfl) (fun _ _ _ h => h) (Or.inl ⟨by rfl, ?_⟩) (by assumption) ?_
                    rotate_left
                    · intro w hSw
                      (try dsimp only at hSw)
                      go_simp
                      with_reducible rfl
                    (try simp only [Act.put, List.setIfInBounds_toArray, List.set_cons_zero, List.set_cons_succ])
                    refine wpAnyH_take (i := 18) (oi := { dst := (some 143), op := (Op.binOp BinOp.eql 9 (Operand.tmp 140) (Operand.tmp 142) 9), type := 4, pos := "law.go:55", after := #[{ on := 15, ground := Ground.data }, { on := 17, ground := Ground.data }, { on := 9, ground := Ground.guard }], guard := (some (9, true)) }) (v := ?_) rfl (by kernel_rfl) (by kernel_rfl) (by kernel_rfl) (fun _ _ _ h => h) (Or.inl ⟨by rfl, ?_⟩) (by assumption) ?_
                    rotate_left
                    · intro w hSw
                      (try dsimp only at hSw)
                      go_simp
                      with_reducible rfl
                    (try simp only [Act.put, List.setIfInBounds_toArray, List.set_cons_zero, List.set_cons_succ])
                    refine wpAnyH_take (i := 19) (oi := { dst := (some 144), op := (Op.pick (Operand.tmp 134) (Operand.tmp 143) (Operand.const (Value.bool false))), type := 4, pos := "law.go:55", after := #[{ on := 9, ground := Ground.data }, { on := 18, ground := Ground.data }], guard := none }) (v := ?_) rfl (by kernel_rfl) (by kernel_rfl) (by kernel_rfl) (fun _ _ _ h => h) (Or.inl ⟨by rfl, ?_⟩) (by assumption) ?_
                    rotate_left
                    · intro w hSw
                      (try dsimp only at hSw)
                      go_simp
                      with_reducible rfl
                    (try simp only [Act.put, List.setIfInBounds_toArray, List.set_cons_zero, List.set_cons_succ])
                    refine wpAnyH_take (i := 20) (oi := { dst := (some 145), op := (Op.move (Operand.tmp 144)), type := 4, pos := "law.go:55", after := #[{ on := 19, ground := Ground.data }, { on := 14, ground := Ground.chain }], guard := none }) (v := ?_) rfl (by kernel_rfl) (by kernel_rfl) (by kernel_rfl) (fun _ _ _ h => h) (Or.inl ⟨by rfl, ?_⟩) (by assumption) ?_
                    rotate_left
                    · intro w hSw
                      (try dsimp only at hSw)
                      go_simp
                      with_reducible rfl
                    (try simp only [Act.put, List.setIfInBounds_toArray, List.set_cons_zero, List.set_cons_succ])
                    refine wpAnyH_take (i := 22) (oi := { dst := (some 147), op := (Op.move (Operand.tmp 0)), type := 22, pos := "law.go:55", after := #[{ on := 20, ground := Ground.guard }], guard := (some (20, true)) }) (v := ?_) rfl (by kernel_rfl) (by kernel_rfl) (by kernel_rfl) (fun _ _ _ h => h) (Or.inl ⟨by rfl, ?_⟩) (by assumption) ?_
                    rotate_left
                    · intro w hSw
                      (try dsimp only at hSw)
                      go_simp
                      with_reducible rfl
                    (try simp only [Act.put, List.setIfInBounds_toArray, List.set_cons_zero, List.set_cons_succ])
                    refine wpAnyH_take (i := 24) (oi := { dst := (some 149), op := (Op.move (Operand.tmp 3)), type := 51, pos := "law.go:55", after := #[{ on := 20, ground := Ground.guard }], guard := (some (20, true)) }) (v := ?_) rfl (by kernel_rfl) (by kernel_rfl) (by kernel_rfl) (fun _ _ _ h => h) (Or.inl ⟨by rfl, ?_⟩) (by assumption) ?_
                    rotate_left
                    · intro w hSw
                      (try dsimp only at hSw)
                      go_simp
                      with_reducible rfl
                    (try simp only [Act.put, List.setIfInBounds_toArray, List.set_cons_zero, List.set_cons_succ])
                    refine wpAnyH_take (i := 27) (oi := { dst := (some 152), op := (Op.move (Operand.tmp 15)), type := 22, pos := "law.go:55", after := #[{ on := 20, ground := Ground.guard }], guard := (some (20, true)) }) (v := ?_) rfl (by kernel_rfl) (by kernel_rfl) (by kernel_rfl) (fun _ _ _ h => h) (Or.inl ⟨by rfl, ?_⟩) (by assumption) ?_
                    rotate_left
                    · intro w hSw
                      (try dsimp only at hSw)
                      go_simp
                      with_reducible rfl
                    (try simp only [Act.put, List.setIfInBounds_toArray, List.set_cons_zero, List.set_cons_succ])
                    refine wpAnyH_take (i := 28) (oi := { dst := (some 153), op := (Op.convert 22 9 (Operand.tmp 152)), type := 9, pos := "law.go:55", after := #[{ on := 27, ground := Ground.data }, { on := 20, ground := Ground.guard }], guard := (some (20, true)) }) (v := ?_) rfl (by kernel_rfl) (by kernel_rfl) (by kernel_rfl) (fun _ _ _ h => h) (Or.inl ⟨by rfl, ?_⟩) (by assumption) ?_
                    rotate_left
                    · intro w hSw
                      (try dsimp only at hSw)
                      go_simp
                      with_reducible rfl
                    (try simp only [Act.put, List.setIfInBounds_toArray, List.set_cons_zero, List.set_cons_succ])
                    refine wpAnyH_ready (rs := [21]) (by kernel_rfl) (by simp) ?_
                    refine AllReadyH.cons (o := { dst := (some 146), op := (Op.buildSlice 22 0 #[]), type := 22, pos := "law.go:55", after := #[{ on := 20, ground := Ground.guard }], guard := (some (20, true)) }) rfl (fun K hK => ?_) AllReadyH.nil
                    have hE3 := hHeld
                    have hz3 := (hE3.1.1.2.go (Below.refl _ _)).1.2
                    have hD3 := hz3.big
                    go_simp
                    refine hK.out _ _ ?_ (fun hHeld => ?_)
                    · exact ⟨⟨Ev.both hE3.1.1.2 ((Below.refl _ _).alloc (Nat.le_refl _) _), hE3.1.2.2.go ((Below.refl _ _).alloc (Nat.le_refl _) _)⟩, hE3.2.2.go ((Below.refl _ _).alloc (Nat.le_refl _) _)⟩
                    clear hK K
                    (try simp only [Act.put, List.setIfInBounds_toArray, List.set_cons_zero, List.set_cons_succ])
                    refine wpAnyH_ready (rs := [23]) (by kernel_rfl) (by simp) ?_
                    refine AllReadyH.cons (o := { dst := (some 148), op := (Op.call { callee := (Callee.builtin Builtin.append), args := #[(Operand.tmp 146), (Operand.tmp 147)], argTypes := #[22, 22] }), type := 22, pos := "law.go:55", after := #[{ on := 21, ground := Ground.data }, { on := 22, ground := Ground.data }, { on := 20, ground := Ground.chain }, { on := 20, ground := Ground.guard }], guard := (some (20, true)) }) rfl (fun K hK => ?_) AllReadyH.nil
                    refine wanted_go (by rfl) ?_
                    refine wp_cloneB (.tmp 146) (.tmp 147) rfl rfl rfl hz3.r0 (show l0.length ≤ 140737488355328 by omega) ?_
                    intro y3 Wa3 oy3 ly3 by3
                    have hq3 := (hE3.1.1.2.go by3).1.2
                    have hq3D := hD3
                    refine hK.out _ _ ?_ (fun hHeld => ?_)
                    · exact ⟨⟨Ev.both hE3.1.1.2 by3, hE3.1.2.2.go by3⟩, hE3.2.2.go by3⟩
                    clear hK K
                    (try simp only [Act.put, List.setIfInBounds_toArray, List.set_cons_zero, List.set_cons_succ])
                    refine wpAnyH_ready (rs := [25]) (by kernel_rfl) (by simp) ?_
                    refine AllReadyH.cons (o := { dst := (some 150), op := (Op.call { callee := (Callee.value (Operand.func 32)), args := #[(Operand.tmp 148), (Operand.tmp 149)], argTypes := #[22, 51] }), type := 22, pos := "law.go:55", after := #[{ on := 23, ground := Ground.data }, { on := 24, ground := Ground.data }, { on := 23, ground := Ground.chain }, { on := 20, ground := Ground.guard }], guard := (some (20, true)) }) rfl (fun K hK => ?_) AllReadyH.nil
                    go_simp
                    refine (Put32_any oy3 (hq3.r3) (fun b hb => Nat.le_trans (hq3D) (ly3 b hb)) n3 (by omega)).mono ?_
                    rintro e Wb3 ⟨z3, rfl, oz3, nz3, fz3⟩
                    have bz3 := by3.trans (fz3.belowB ly3 by3.size)
                    rw [← hR3.out] at oz3
                    obtain ⟨Ay3, cy3, rfl⟩ := oz3.slice
                    refine hK.out _ _ ?_ (fun hHeld => ?_)
                    · exact ⟨⟨Ev.both hE3.1.1.2 bz3, hE3.1.2.2.go bz3⟩, hE3.2.2.go bz3⟩
                    clear hK K
                    (try simp only [Act.put, List.setIfInBounds_toArray, List.set_cons_zero, List.set_cons_succ])
                    refine wpAnyH_more (S' := (fun W => ((((((convert 22 9 (.slice A6 R1.length c6)).run Try.prog W = .ok (.string (strOfNums R1)) W ∧ (convert 22 9 (.slice A7 R2.length c7)).run Try.prog W = .ok (.string (strOfNums R2)) W ∧ (convert 22 9 (.slice A8 R3.length c8)).run Try.prog W = .ok (.string (strOfNums R3)) W ∧ (convert 22 9 (.slice A9 R4.length c9)).run Try.prog W = .ok (.string (strOfNums R4)) W) ∧ Ev (fun W => ((convert 22 9 (.slice A6 R1.length c6)).run Try.prog W = .ok (.string (strOfNums R1)) W ∧ (convert 22 9 (.slice A7 R2.length c7)).run Try.prog W = .ok (.string (strOfNums R2)) W ∧ (convert 22 9 (.slice A8 R3.length c8)).run Try.prog W = .ok (.string (strOfNums R3)) W ∧ (convert 22 9 (.slice A9 R4.length c9)).run Try.prog W = .ok (.string (strOfNums R4)) W) ∧ InP w' w'.heap.size wr.heap.size (.slice A0 l0.length c0) (.slice A1 l1.length c1) (.slice A2 l2.length c2) (.slice A3 l3.length c3) (.slice A4 ms.length c4) l0 l1 l2 l3 ms W) W) ∧ ((convert 22 9 (.slice Ay1 R1.length cy1)).run Try.prog W = .ok (.string (strOfNums R1)) W ∧ Ev (fun W => (convert 22 9 (.slice Ay1 R1.length cy1)).run Try.prog W = .ok (.string (strOfNums R1)) W) W)) ∧ ((convert 22 9 (.slice Ay2 R2.length cy2)).run Try.prog W = .ok (.string (strOfNums R2)) W ∧ Ev (fun W => (convert 22 9 (.slice Ay2 R2.length cy2)).run Try.prog W = .ok (.string (strOfNums R2)) W) W)) ∧ ((convert 22 9 (.slice Ay3 R3.length cy3)).run Try.prog W = .ok (.string (strOfNums R3)) W ∧ Ev (fun W => (convert 22 9 (.slice Ay3 R3.length cy3)).run Try.prog W = .ok (.string (strOfNums R3)) W) W)))) (fun _ h => h.1) ?_
                    have hM3 := And.intro hHeld (And.intro (conv_str oz3.old) (show Ev (fun W => (convert 22 9 (.slice Ay3 R3.length cy3)).run Try.prog W = .ok (.string (strOfNums R3)) W) _ from fun W h => conv_str (oz3.old.later h)))
                    clear hHeld
                    have hHeld := hM3
                    clear hM3
                    refine wpAnyH_take (i := 26) (oi := { dst := (some 151), op := (Op.convert 22 9 (Operand.tmp 150)), type := 9, pos := "law.go:55", after := #[{ on := 25, ground := Ground.data }, { on := 20, ground := Ground.guard }], guard := (some (20, true)) }) (v := ?_) rfl (by kernel_rfl) (by kernel_rfl) (by kernel_rfl) (fun _ _ _ h => h) (Or.inl ⟨by rfl, ?_⟩) (by assumption) ?_
                    rotate_left
                    · intro w hSw
                      (try dsimp only at hSw)
                      go_simp
                      with_reducible rfl
                    (try simp only [Act.put, List.setIfInBounds_toArray, List.set_cons_zero, List.set_cons_succ])
                    refine wpAnyH_take (i := 29) (oi := { dst := (some 154), op := (Op.binOp BinOp.eql 9 (Operand.tmp 151) (Operand.tmp 153) 9), type := 4, pos := "law.go:55", after := #[{ on := 26, ground := Ground.data }, { on := 28, ground := Ground.data }, { on := 20, ground := Ground.guard }], guard := (some (20, true)) }) (v := ?_) rfl (by kernel_rfl) (by kernel_rfl) (by kernel_rfl) (fun _ _ _ h => h) (Or.inl ⟨by rfl, ?_⟩) (by assumption) ?_
                    rotate_left
                    · intro w hSw
                      (try dsimp only at hSw)
                      go_simp
                      with_reducible rfl
                    (try simp only [Act.put, List.setIfInBounds_toArray, List.set_cons_zero, List.set_cons_succ])
                    refine wpAnyH_take (i := 30) (oi := { dst := (some 155), op := (Op.pick (Operand.tmp 145) (Operand.tmp 154) (Operand.const (Value.bool false))), type := 4, pos := "law.go:55", after := #[{ on := 20, ground := Ground.data }, { on := 29, ground := Ground.data }], guard := none }) (v := ?_) rfl (by kernel_rfl) (by kernel_rfl) (by kernel_rfl) (fun _ _ _ h => h) (Or.inl ⟨by rfl, ?_⟩) (by assumption) ?_
                    rotate_left
                    · intro w hSw
                      (try dsimp only at hSw)
                      go_simp
                      with_reducible rfl
                    (try simp only [Act.put, List.setIfInBounds_toArray, List.set_cons_zero, List.set_cons_succ])
                    refine wpAnyH_take (i := 31) (oi := { dst := (some 156), op := (Op.move (Operand.tmp 155)), type := 4, pos := "law.go:55", after := #[{ on := 30, ground := Ground.data }, { on := 25, ground := Ground.chain }], guard := none }) (v := ?_) rfl (by kernel_rfl) (by kernel_rfl) (by kernel_rfl) (fun _ _ _ h => h) (Or.inl ⟨by rfl, ?_⟩) (by assumption) ?_
                    rotate_left
                    · intro w hSw
                      (try dsimp only at hSw)
                      go_simp
                      with_reducible rfl
                    (try simp only [Act.put, List.setIfInBounds_toArray, List.set_cons_zero, List.set_cons_succ])
                    refine wpAnyH_take (i := 33) (oi := { dst := (some 158), op := (Op.move (Operand.tmp 0)), type := 22, pos := "law.go:55", after := #[{ on := 31, ground := Ground.guard }], guard := (some (31, true)) }) (v := ?_) rfl (by kernel_rfl) (by kernel_rfl) (by kernel_rfl) (fun _ _ _ h => h) (Or.inl ⟨by rfl, ?_⟩) (by assumption) ?_
                    rotate_left
                    · intro w hSw
                      (try dsimp only at hSw)
                      go_simp
                      with_reducible rfl
                    (try simp only [Act.put, List.setIfInBounds_toArray, List.set_cons_zero, List.set_cons_succ])
                    refine wpAnyH_take (i := 35) (oi := { dst := (some 160), op := (Op.move (Operand.tmp 4)), type := 59, pos := "law.go:55", after := #[{ on := 31, ground := Ground.guard }], guard := (some (31, true)) }) (v := ?_) rfl (by kernel_rfl) (by kernel_rfl) (by kernel_rfl) (fun _ _ _ h => h) (Or.inl ⟨by rfl, ?_⟩) (by assumption) ?_
                    rotate_left
                    · intro w hSw
                      (try dsimp only at hSw)
                      go_simp
                      with_reducible rfl
                    (try simp only [Act.put, List.setIfInBounds_toArray, List.set_cons_zero, List.set_cons_succ])
                    refine wpAnyH_take (i := 38) (oi := { dst := (some 163), op := (Op.move (Operand.tmp 16)), type := 22, pos := "law.go:55", after := #[{ on := 31, ground := Ground.guard }], guard := (some (31, true)) }) (v := ?_) rfl (by kernel_rfl) (by kernel_rfl) (by kernel_rfl) (fun _ _ _ h => h) (Or.inl ⟨by rfl, ?_⟩) (by assumption) ?_
                    rotate_left
                    · intro w hSw
                      (try dsimp only at hSw)
                      go_simp
                      with_reducible rfl
                    (try simp only [Act.put, List.setIfInBounds_toArray, List.set_cons_zero, List.set_cons_succ])
                    refine wpAnyH_take (i := 39) (oi := { dst := (some 164), op := (Op.convert 22 9 (Operand.tmp 163)), type := 9, pos := "law.go:55", after := #[{ on := 38, ground := Ground.data }, { on := 31, ground := Ground.guard }], guard := (some (31, true)) }) (v := ?_) rfl (by kernel_rfl) (by kernel_rfl) (by kernel_rfl) (fun _ _ _ h => h) (Or.inl ⟨by rfl, ?_⟩) (by assumption) ?_
                    rotate_left
                    · intro w hSw
                      (try dsimp only at hSw)
                      go_simp
                      with_reducible rfl
                    (try simp only [Act.put, List.setIfInBounds_toArray, List.set_cons_zero, List.set_cons_succ])
                    refine wpAnyH_ready (rs := [32]) (by kernel_rfl) (by simp) ?_
                    refine AllReadyH.cons (o := { dst := (some 157), op := (Op.buildSlice 22 0 #[]), type := 22, pos := "law.go:55", after := #[{ on := 31, ground := Ground.guard }], guard := (some (31, true)) }) rfl (fun K hK => ?_) AllReadyH.nil
                    have hE4 := hHeld
                    have hz4 := (hE4.1.1.1.2.go (Below.refl _ _)).1.2
                    have hD4 := hz4.big
                    go_simp
                    refine hK.out _ _ ?_ (fun hHeld => ?_)
                    · exact ⟨⟨⟨Ev.both hE4.1.1.1.2 ((Below.refl _ _).alloc (Nat.le_refl _) _), hE4.1.1.2.2.go ((Below.refl _ _).alloc (Nat.le_refl _) _)⟩, hE4.1.2.2.go ((Below.refl _ _).alloc (Nat.le_refl _) _)⟩, hE4.2.2.go ((Below.refl _ _).alloc (Nat.le_refl _) _)⟩
                    clear hK K
                    (try simp only [Act.put, List.setIfInBounds_toArray, List.set_cons_zero, List.set_cons_succ])
                    refine wpAnyH_ready (rs := [34]) (by kernel_rfl) (by simp) ?_
                    refine AllReadyH.cons (o := { dst := (some 159), op := (Op.call { callee := (Callee.builtin Builtin.append), args := #[(Operand.tmp 157), (Operand.tmp 158)], argTypes := #[22, 22] }), type := 22, pos := "law.go:55", after := #[{ on := 32, ground := Ground.data }, { on := 33, ground := Ground.data }, { on := 31, ground := Ground.chain }, { on := 31, ground := Ground.guard }], guard := (some (31, true)) }) rfl (fun K hK => ?_) AllReadyH.nil
                    refine wanted_go (by rfl) ?_
                    refine wp_cloneB (.tmp 157) (.tmp 158) rfl rfl rfl hz4.r0 (show l0.length ≤ 140737488355328 by omega) ?_
                    intro y4 Wa4 oy4 ly4 by4
                    have hq4 := (hE4.1.1.1.2.go by4).1.2
                    have hq4D := hD4
                    refine hK.out _ _ ?_ (fun hHeld => ?_)
                    · exact ⟨⟨⟨Ev.both hE4.1.1.1.2 by4, hE4.1.1.2.2.go by4⟩, hE4.1.2.2.go by4⟩, hE4.2.2.go by4⟩
                    clear hK K
                    (try simp only [Act.put, List.setIfInBounds_toArray, List.set_cons_zero, List.set_cons_succ])
                    refine wpAnyH_ready (rs := [36]) (by kernel_rfl) (by simp) ?_
                    refine AllReadyH.cons (o := { dst := (some 161), op := (Op.call { callee := (Callee.value (Operand.func 36)), args := #[(Operand.tmp 159), (Operand.tmp 160)], argTypes := #[22, 59] }), type := 22, pos := "law.go:55", after := #[{ on := 34, ground := Ground.data }, { on := 35, ground := Ground.data }, { on := 34, ground := Ground.chain }, { on := 31, ground := Ground.guard }], guard := (some (31, true)) }) rfl (fun K hK => ?_) AllReadyH.nil
                    go_simp
                    refine (PutBytes_any oy4 (hq4.r4) (fun b hb => Nat.le_trans (hq4D) (ly4 b hb)) (by omega)).mono ?_
                    rintro e Wb4 ⟨z4, rfl, oz4, nz4, fz4⟩
                    have bz4 := by4.trans (fz4.belowB ly4 by4.size)
                    rw [← hR4.out] at oz4
                    obtain ⟨Ay4, cy4, rfl⟩ := oz4.slice
                    refine hK.out _ _ ?_ (fun hHeld => ?_)
                    · exact ⟨⟨⟨Ev.both hE4.1.1.1.2 bz4, hE4.1.1.2.2.go bz4⟩, hE4.1.2.2.go bz4⟩, hE4.2.2.go bz4⟩
                    clear hK K
                    (try simp only [Act.put, List.setIfInBounds_toArray, List.set_cons_zero, List.set_cons_succ])
                    refine wpAnyH_more (S' := (fun W => (((((((convert 22 9 (.slice A6 R1.length c6)).run Try.prog W = .ok (.string (strOfNums R1)) W ∧ (convert 22 9 (.slice A7 R2.length c7)).run Try.prog W = .ok (.string (strOfNums R2)) W ∧ (convert 22 9 (.slice A8 R3.length c8)).run Try.prog W = .ok (.string (strOfNums R3)) W ∧ (convert 22 9 (.slice A9 R4.length c9)).run Try.prog W = .ok (.string (strOfNums R4)) W) ∧ Ev (fun W => ((convert 22 9 (.slice A6 R1.length c6)).run Try.prog W = .ok (.string (strOfNums R1)) W ∧ (convert 22 9 (.slice A7 R2.length c7)).run Try.prog W = .ok (.string (strOfNums R2)) W ∧ (convert 22 9 (.slice A8 R3.length c8)).run Try.prog W = .ok (.string (strOfNums R3)) W ∧ (convert 22 9 (.slice A9 R4.length c9)).run Try.prog W = .ok (.string (strOfNums R4)) W) ∧ InP w' w'.heap.size wr.heap.size (.slice A0 l0.length c0) (.slice A1 l1.length c1) (.slice A2 l2.length c2) (.slice A3 l3.length c3) (.slice A4 ms.length c4) l0 l1 l2 l3 ms W) W) ∧ ((convert 22 9 (.slice Ay1 R1.length cy1)).run Try.prog W = .ok (.string (strOfNums R1)) W ∧ Ev (fun W => (convert 22 9 (.slice Ay1 R1.length cy1)).run Try.prog W = .ok (.string (strOfNums R1)) W) W)) ∧ ((convert 22 9 (.slice Ay2 R2.length cy2)).run Try.prog W = .ok (.string (strOfNums R2)) W ∧ Ev (fun W => (convert 22 9 (.slice Ay2 R2.length cy2)).run Try.prog W = .ok (.string (strOfNums R2)) W) W)) ∧ ((convert 22 9 (.slice Ay3 R3.length cy3)).run Try.prog W = .ok (.string (strOfNums R3)) W ∧ Ev (fun W => (convert 22 9 (.slice Ay3 R3.length cy3)).run Try.prog W = .ok (.string (strOfNums R3)) W) W)) ∧ ((convert 22 9 (.slice Ay4 R4.length cy4)).run Try.prog W = .ok (.string (strOfNums R4)) W ∧ Ev (fun W => (convert 22 9 (.slice Ay4 R4.length cy4)).run Try.prog W = .ok (.string (strOfNums R4)) W) W)))) (fun _ h => h.1) ?_
                    have hM4 := And.intro hHeld (And.intro (conv_str oz4.old) (show Ev (fun W => (convert 22 9 (.slice Ay4 R4.length cy4)).run Try.prog W = .ok (.string (strOfNums R4)) W) _ from fun W h => conv_str (oz4.old.later h)))
                    clear hHeld
                    have hHeld := hM4
                    clear hM4
                    refine wpAnyH_take (i := 37) (oi := { dst := (some 162), op := (Op.convert 22 9 (Operand.tmp 161)), type := 9, pos := "law.go:55", after := #[{ on := 36, ground := Ground.data }, { on := 31, ground := Ground.guard }], guard := (some (31, true)) }) (v := ?_) rfl (by kernel_rfl) (by kernel_rfl) (by kernel_rfl) (fun _ _ _ h => h) (Or.inl ⟨by rfl, ?_⟩) (by assumption) ?_
                    rotate_left
                    · intro w hSw
                      (try dsimp only at hSw)
                      go_simp
                      with_reducible rfl
                    (try simp only [Act.put, List.setIfInBounds_toArray, List.set_cons_zero, List.set_cons_succ])
                    refine wpAnyH_take (i := 40) (oi := { dst := (some 165), op := (Op.binOp BinOp.eql 9 (Operand.tmp 162) (Operand.tmp 164) 9), type := 4, pos := "law.go:55", after := #[{ on := 37, ground := Ground.data }, { on := 39, ground := Ground.data }, { on := 31, ground := Ground.guard }], guard := (some (31, true)) }) (v := ?_) rfl (by kernel_rfl) (by kernel_rfl) (by kernel_rfl) (fun _ _ _ h => h) (Or.inl ⟨by rfl, ?_⟩) (by assumption) ?_
                    rotate_left
                    · intro w hSw
                      (try dsimp only at hSw)
                      go_simp
                      with_reducible rfl
                    (try simp only [Act.put, List.setIfInBounds_toArray, List.set_cons_zero, List.set_cons_succ])
                    refine wpAnyH_take (i := 41) (oi := { dst := (some 166), op := (Op.pick (Operand.tmp 156) (Operand.tmp 165) (Operand.const (Value.bool false))), type := 4, pos := "law.go:55", after := #[{ on := 31, ground := Ground.data }, { on := 40, ground := Ground.data }], guard := none }) (v := ?_) rfl (by kernel_rfl) (by kernel_rfl) (by kernel_rfl) (fun _ _ _ h => h) (Or.inl ⟨by rfl, ?_⟩) (by assumption) ?_
                    rotate_left
                    · intro w hSw
                      (try dsimp only at hSw)
                      go_simp
                      with_reducible rfl
                    (try simp only [Act.put, List.setIfInBounds_toArray, List.set_cons_zero, List.set_cons_succ])
                    refine wpAnyH_take (i := 42) (oi := { dst := (some 167), op := (Op.move (Operand.tmp 166)), type := 4, pos := "law.go:55", after := #[{ on := 41, ground := Ground.data }, { on := 36, ground := Ground.chain }], guard := none }) (v := ?_) rfl (by kernel_rfl) (by kernel_rfl) (by kernel_rfl) (fun _ _ _ h => h) (Or.inl ⟨by rfl, ?_⟩) (by assumption) ?_
                    rotate_left
                    · intro w hSw
                      (try dsimp only at hSw)
                      go_simp
                      with_reducible rfl
                    (try simp only [Act.put, List.setIfInBounds_toArray, List.set_cons_zero, List.set_cons_succ])
                    refine wpAnyH_ready (rs := [43]) (by kernel_rfl) (by simp) ?_
                    refine AllReadyH.cons (o := { dst := (some 168), op := (Op.call { callee := (Callee.value (Operand.func 13)), args := #[], argTypes := #[] }), type := 4, pos := "law.go:55", after := #[{ on := 42, ground := Ground.chain }, { on := 42, ground := Ground.guard }], guard := (some (42, true)) }) rfl (fun K hK => ?_) AllReadyH.nil
                    have hE5 := hHeld
                    go_simp
                    refine (live_any _).mono ?_
                    rintro e W9 ⟨rfl, hf9⟩
                    have b9 := hf9.below (fun _ h => h.elim)
                    refine hK.out _ _ ?_ (fun hHeld => ?_)
                    · exact ⟨⟨⟨⟨Ev.both hE5.1.1.1.1.2 b9, hE5.1.1.1.2.2.go b9⟩, hE5.1.1.2.2.go b9⟩, hE5.1.2.2.go b9⟩, hE5.2.2.go b9⟩
                    clear hK K
                    (try simp only [Act.put, List.setIfInBounds_toArray, List.set_cons_zero, List.set_cons_succ])
                    refine wpAnyH_take (i := 44) (oi := { dst := (some 169), op := (Op.pick (Operand.tmp 167) (Operand.tmp 168) (Operand.const (Value.bool false))), type := 4, pos := "law.go:55", after := #[{ on := 42, ground := Ground.data }, { on := 43, ground := Ground.data }], guard := none }) (v := ?_) rfl (by kernel_rfl) (by kernel_rfl) (by kernel_rfl) (fun _ _ _ h => h) (Or.inl ⟨by rfl, ?_⟩) (by assumption) ?_
                    rotate_left
                    · intro w hSw
                      (try dsimp only at hSw)
                      go_simp
                      with_reducible rfl
                    (try simp only [Act.put, List.setIfInBounds_toArray, List.set_cons_zero, List.set_cons_succ])
                    refine wpAnyH_take (i := 45) (oi := { dst := (some 10), op := (Op.assign (Operand.tmp 169)), type := 4, pos := "law.go:55", after := #[{ on := 44, ground := Ground.data }, { on := 43, ground := Ground.chain }, { on := 0, ground := Ground.phase }, { on := 1, ground := Ground.phase }, { on := 2, ground := Ground.phase }, { on := 3, ground := Ground.phase }, { on := 4, ground := Ground.phase }, { on := 5, ground := Ground.phase }, { on := 6, ground := Ground.phase }, { on := 7, ground := Ground.phase }, { on := 8, ground := Ground.phase }, { on := 9, ground := Ground.phase }, { on := 10, ground := Ground.phase }, { on := 11, ground := Ground.phase }, { on := 12, ground := Ground.phase }, { on := 13, ground := Ground.phase }, { on := 14, ground := Ground.phase }, { on := 15, ground := Ground.phase }, { on := 16, ground := Ground.phase }, { on := 17, ground := Ground.phase }, { on := 18, ground := Ground.phase }, { on := 19, ground := Ground.phase }, { on := 20, ground := Ground.phase }, { on := 21, ground := Ground.phase }, { on := 22, ground := Ground.phase }, { on := 23, ground := Ground.phase }, { on := 24, ground := Ground.phase }, { on := 25, ground := Ground.phase }, { on := 26, ground := Ground.phase }, { on := 27, ground := Ground.phase }, { on := 28, ground := Ground.phase }, { on := 29, ground := Ground.phase }, { on := 30, ground := Ground.phase }, { on := 31, ground := Ground.phase }, { on := 32, ground := Ground.phase }, { on := 33, ground := Ground.phase }, { on := 34, ground := Ground.phase }, { on := 35, ground := Ground.phase }, { on := 36, ground := Ground.phase }, { on := 37, ground := Ground.phase }, { on := 38, ground := Ground.phase }, { on := 39, ground := Ground.phase }, { on := 40, ground := Ground.phase }, { on := 41, ground := Ground.phase }, { on := 42, ground := Ground.phase }, { on := 43, ground := Ground.phase }, { on := 44, ground := Ground.phase }], guard := none }) (v := ?_) rfl (by kernel_rfl) (by kernel_rfl) (by kernel_rfl) (fun _ _ _ h => h) (Or.inl ⟨by rfl, ?_⟩) (by assumption) ?_
                    rotate_left
                    · intro w hSw
                      (try dsimp only at hSw)
                      go_simp
                      with_reducible rfl
                    (try simp only [Act.put, List.setIfInBounds_toArray, List.set_cons_zero, List.set_cons_succ])
                    refine wpAnyH_done (by kernel_rfl) ?_ _
                    go_wp2_with fail
                    go_ret
                    exact ⟨rfl, ((hHeld.1.1.1.1.2.go (Below.refl _ _)).1.2).bel⟩
end Go.Proofs.Ytgfhhnmhpncnlaa
