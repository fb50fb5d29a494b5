/-
  TlvKnown's walk: it returns true. No condition.
-/
import Derived.Test.YtgfhhnmhpncnlaaY
import Derived.Test.YtgfhhnmhpncnlaaS
namespace Go.Proofs.Ytgfhhnmhpncnlaa
open Go.RowKit
set_option linter.unusedVariables false
set_option linter.unusedSimpArgs false

/-- How many pieces are more than padding. -/
def big (rs : List (Int × List Int)) : Nat := (rs.filter (fun r => decide (1 < r.1))).length
def tys (rs : List (Int × List Int)) : List Int := rs.map (·.1)
theorem big_snoc (rs : List (Int × List Int)) (j : Nat) (h : j < rs.length) : big (rs.take (j + 1)) = big (rs.take j) + if 1 < (rs[j]).1 then 1 else 0 := by
  unfold big
  rw [List.take_succ_eq_append_getElem h, List.filter_append, List.length_append]
  congr 1
  by_cases c : 1 < (rs[j]).1
  · rw [if_pos c]; simp [c]
  · rw [if_neg c]; simp [c]
theorem tys_snoc (rs : List (Int × List Int)) (j : Nat) (h : j < rs.length) : tys (rs.take (j + 1)) = tys (rs.take j) ++ [(rs[j]).1] := by
  unfold tys
  rw [List.take_succ_eq_append_getElem h, List.map_append]; rfl
theorem kn_tys (rs : List (Int × List Int)) : (kn (tys rs) rs).length = big rs := by
  unfold kn big
  congr 1
  apply List.filter_congr
  intro r hr
  have : r.1 ∈ tys rs := List.mem_map.2 ⟨r, hr, rfl⟩
  simp [this]
theorem fl_tys (rs : List (Int × List Int)) : fl (tys rs) rs = true := by
  unfold fl
  rw [List.all_eq_true]
  intro r hr
  have : r.1 ∈ tys rs := List.mem_map.2 ⟨r, hr, rfl⟩
  simp [this]
theorem kn_big (ts : List Int) (rs : List (Int × List Int)) : (kn ts rs).length ≤ big rs ∧ (fl ts rs = false → (kn ts rs).length < big rs) := by
  induction rs with
  | nil => simp [kn, big, fl]
  | cons r rs ih =>
    have e1 : kn ts (r :: rs) = if 1 < r.1 ∧ r.1 ∈ ts then r :: kn ts rs else kn ts rs := by
      unfold kn; rw [List.filter_cons]; simp
    have e2 : big (r :: rs) = big rs + if 1 < r.1 then 1 else 0 := by
      unfold big; rw [List.filter_cons]; by_cases c : 1 < r.1 <;> simp [c]
    have e3 : fl ts (r :: rs) = ((decide (r.1 ≤ 1) || decide (r.1 ∈ ts) || decide (r.1 < 128)) && fl ts rs) := by
      unfold fl; rw [List.all_cons]
    rw [e1, e2, e3]
    by_cases c : 1 < r.1
    · by_cases d : r.1 ∈ ts
      · rw [if_pos ⟨c, d⟩, if_pos c]
        simp only [List.length_cons, d, decide_true, Bool.or_true, Bool.true_or, Bool.true_and]
        exact ⟨by omega, fun h => by have := ih.2 h; omega⟩
      · rw [if_neg (fun h => d h.2), if_pos c]
        exact ⟨by omega, fun _ => by omega⟩
    · rw [if_neg (fun h => c h.1), if_neg c]
      have : decide (r.1 ≤ 1) = true := decide_eq_true (by omega)
      simp only [this, Bool.true_or, Bool.true_and]
      exact ⟨by omega, fun h => by have := ih.2 h; omega⟩
set_option maxRecDepth 100000 in
set_option maxHeartbeats 6400000 in
theorem TlvKnown_walk (v0 : Value) (l0 : List Int) (v1 : Value) (l1 : List Int) {w : World}
    (h0 : Row w (fun _ => False) 1 v0 l0.length (nums .u8 l0)) (f0 : ∀ x ∈ l0, (Lit.int .u8 x).wf = true) (y0 : l0.length * 1 ≤ 140737488351232)
    (h1 : Row w (fun _ => False) 1 v1 l1.length (nums .u8 l1)) (f1 : ∀ x ∈ l1, (Lit.int .u8 x).wf = true) (y1 : l1.length * 1 ≤ 140737488351232) (w' : World) (hw : w' = w) :
    Calls Try.prog 12 #[v0, v1] w' fun e w' => e = .returned (.bool true) ∧ Below w.heap.size w w' := by
  subst hw
  have g0 := (bs_of_row h0 f0).out
  have g1 := (bs_of_row h1 f1).out
  obtain ⟨A0, c0, rfl, -⟩ := h0.head
  obtain ⟨A1, c1, rfl, -⟩ := h1.head
  clear h0 h1 f0 f1
  by_cases d0 : 300 < l0.length
  · have e0 : decide (300 < l0.length) = true := decide_eq_true d0
    go_enter Try.func12, Try.ntmps12
    go_wp2_with (go_at_call 37; refine (live5_any _).mono ?_; rintro e w1 ⟨rfl, hf⟩)
    go_ret
    exact ⟨rfl, hf⟩
  have e0 : decide (300 < l0.length) = false := decide_eq_false d0
  by_cases d1 : 70000 < l1.length
  · have e1 : decide (70000 < l1.length) = true := decide_eq_true d1
    go_enter Try.func12, Try.ntmps12
    go_wp2_with (go_at_call 37; refine (live5_any _).mono ?_; rintro e w1 ⟨rfl, hf⟩)
    go_ret
    exact ⟨rfl, hf⟩
  have e1 : decide (70000 < l1.length) = false := decide_eq_false d1
  have HA := Sub_any g0 g1 (by omega)
  have HB := fun (W : World) (h : Bs W (fun b => w'.heap.size ≤ b) (.slice A1 l1.length c1) l1) => Split_any h (by omega)
  have HC := fun (W : World) (x : Value) (m : List Int) (hx : Bs W (fun b => W.heap.size ≤ b) x m) (h : Bs W (fun b => w'.heap.size ≤ b) (.slice A1 l1.length c1) l1) => Sub_any hx h (by omega)
  have hty := spl_ty l1.length [] l1 g1.news' (fun r h => by cases h)
  obtain ⟨⟨rs, er⟩, hq⟩ : ∃ q, spl l1.length [] l1 = q := ⟨_, rfl⟩
  simp only [hq] at HA HB HC hty
  clear hq
  have hrl : rs.length ≤ 70000 := by have := hty.1; simp at this; omega
  have htx := Lib.hid hty.2
  have HBx := Lib.hid HB
  have HCx := Lib.hid HC
  have hkb := Lib.hid (kn_big l0 rs)
  clear hty HB HC
  go_enter Try.func12, Try.ntmps12
  go_wp2_with fail
  refine HA.mono ?_
  rintro e w1 ⟨v5, rfl, o5, b1⟩
  have q5 := o5.raws
  have g0 := g0.later b1
  have g1 := g1.later b1
  clear HA o5
  go_wp2_with fail
  refine (HBx.out _ g1).mono ?_
  rintro e w2 ⟨v8, rfl, o8, b2⟩
  have q8 : RawsB w2 (fun b => w2.heap.size ≤ b) v8 rs := OR.raws (rs := rs) o8
  have B2 := b1.trans (b2.mono b1.size)
  have q5 := q5.later b2
  have g0 := g0.later (b2.mono b1.size)
  have g1 := g1.later (b2.mono b1.size)
  have s2 := b2.size
  obtain ⟨A8, c8, rfl, hmx, -⟩ := q8.at_
  obtain ⟨A5, c5, rfl, -, -⟩ := q5.at_
  clear o8 b2
  go_wp2_with fail
  go_loopw [10, 11, 12] (fun u c i wr => ∃ j : Nat, j ≤ rs.length ∧ i = .int .i64 j ∧ c = .int .i64 (big (rs.take j) : Nat) ∧ Ob wr u (tys (rs.take j)) ∧ Lo w2.heap.size u ∧ Below w2.heap.size w2 wr) (fun _ _ i _ => rs.length - (intOf i).toNat)
  case atStart => exact ⟨0, Nat.zero_le _, rfl, rfl, Ob.nil _, Lo.nil _, Below.refl _ _⟩
  case round =>
    obtain ⟨j, hj, rfl, rfl, ho, hlo, bel⟩ := hrel
    by_cases hlt : j < rs.length
    · obtain ⟨A', c', hA, -, hat⟩ := (q8.later bel).at_
      obtain ⟨rfl, -, rfl⟩ : A8 = A' ∧ rs.length = rs.length ∧ c8 = c' := by injection hA with a b c; exact ⟨a, b, c⟩
      obtain ⟨b, o, u, rfl, p1, p2, p3, p4, p5⟩ := hat j hlt
      have hbs := Lib.hid (big_snoc rs j hlt)
      have hts := Lib.hid (tys_snoc rs j hlt)
      have hr := htx.out _ (List.getElem_mem hlt)
      have hbl : big (rs.take j) ≤ j := Nat.le_trans (List.length_filter_le _ _) (by rw [List.length_take]; omega)
      have htl : (tys (rs.take j)).length + 1 ≤ 140737488355328 := by unfold tys; simp; omega
      generalize big (rs.take j) = C0 at *
      generalize tys (rs.take j) = T0 at *
      generalize rs[j] = r at *
      obtain ⟨ty, l⟩ := r
      simp only at hr p3
      have hcb : IntKind.i64.wrap ((C0 : Int) + 1) = (C0 : Int) + 1 := IntWalk.i64_in _ (by omega)
      clear hat hA p2 p4 p5
      by_cases k1 : 1 < ty
      · have k1b : decide (1 < ty) = true := decide_eq_true k1
        have k1 := Lib.hid k1
        go_wp2_with (at_builtin; refine wpList_app1 rfl (.tmp 46) (.tmp 52) rfl rfl ho rfl hr.1 hr.2 htl ?_; intro v9 w9 o9 n9 f9; have p9 := f9.cell p3 (fun hb => p1 (hlo _ hb)))
        go_roundw
        case rel => exact ⟨j + 1, by omega, by go_num, by rw [hbs.out, if_pos k1.out]; rfl, by rw [hts.out]; exact o9, hlo.next n9 bel.size, bel.trans (f9.belowB hlo bel.size)⟩
        case measure => simp [intOf]; omega
      · have k1b : decide (1 < ty) = false := decide_eq_false k1
        have k1 := Lib.hid k1
        go_wp2_with (at_builtin; refine wpList_app1 rfl (.tmp 46) (.tmp 52) rfl rfl ho rfl hr.1 hr.2 htl ?_; intro v9 w9 o9 n9 f9; have p9 := f9.cell p3 (fun hb => p1 (hlo _ hb)))
        go_roundw
        case rel => exact ⟨j + 1, by omega, by go_num, by rw [hbs.out, if_neg k1.out]; rfl, by rw [hts.out]; exact o9, hlo.next n9 bel.size, bel.trans (f9.belowB hlo bel.size)⟩
        case measure => simp [intOf]; omega
    · obtain rfl : j = rs.length := by omega
      rw [List.take_length] at ho
      have eb : big (rs.take rs.length) = big rs := by rw [List.take_length]
      rw [eb] at *
      have B3 := B2.trans (bel.mono B2.size)
      have q5 := q5.later (bel.mono s2)
      have g0 := g0.later (bel.mono B2.size)
      have g1 := g1.later (bel.mono B2.size)
      clear q8 eb hlo bel hlt hj
      have hQm := Lib.hid (show ∀ r ∈ kn l0 rs, 1 < r.1 ∧ r.1 ∈ l0 from fun r h => by have := (List.mem_filter.1 h).2; simpa using this)
      have hQl : (kn l0 rs).length ≤ 70000 := Nat.le_trans (kn_le _ _) hrl
      generalize kn l0 rs = Q5 at *
      go_wp2_with fail
      go_loopw [13] (fun i wx => ∃ j n : Nat, wx = wr.drewN n ∧ j ≤ Q5.length ∧ i = .int .i64 j) (fun i _ => Q5.length - (intOf i).toNat)
      case atStart => exact ⟨0, 0, rfl, Nat.zero_le _, rfl⟩
      case round =>
        obtain ⟨j, n, rfl, hj, rfl⟩ := hrel
        by_cases hlt : j < Q5.length
        · obtain ⟨A', c', hA, -, hat⟩ := q5.at_
          obtain ⟨rfl, -, rfl⟩ : A5 = A' ∧ Q5.length = Q5.length ∧ c5 = c' := by injection hA with a b c; exact ⟨a, b, c⟩
          obtain ⟨b, o, u, rfl, p1, p2, p3, p4, p5⟩ := hat j hlt
          have hm := hQm.out _ (List.getElem_mem hlt)
          generalize Q5[j] = r at *
          obtain ⟨ty, l⟩ := r
          simp only at hm p3
          obtain ⟨hm1, hm2⟩ := hm
          have hmx := Lib.hid hm2
          clear hat hA p1 p2 p4 p5 hm2
          go_wp2_with fail
          go_loopw [14, 15] (fun f i wx => ∃ jj n : Nat, wx = wr.drewN n ∧ jj ≤ l0.length ∧ i = .int .i64 jj ∧ f = .bool (decide (ty ∈ l0.take jj))) (fun _ i _ => l0.length - (intOf i).toNat)
          case atStart => exact ⟨0, n, rfl, Nat.zero_le _, rfl, by simp⟩
          case round =>
            obtain ⟨jj, n2, rfl, hjj, rfl, rfl⟩ := hrel
            by_cases hl2 : jj < l0.length
            · obtain ⟨A', c', hA, hc1, hc2, hc3, hB, hAd⟩ := id g0
              obtain ⟨rfl, -, rfl⟩ : A0 = A' ∧ l0.length = l0.length ∧ c0 = c' := by injection hA with a b c; exact ⟨a, b, c⟩
              obtain ⟨ad, rfl⟩ : ∃ ad, A0 = some ad := by
                cases A0 with
                | none => have := hc3 rfl; omega
                | some a => exact ⟨a, rfl⟩
              obtain ⟨s1, s2x, s3, s4⟩ := hAd ad rfl (by omega)
              obtain ⟨b0, o0, sp⟩ := ad
              simp only at s1
              subst s1
              have hc := s4 jj hl2
              rw [Addr.add_lit] at hc
              have hs : l0.take (jj + 1) = l0.take jj ++ [l0.getD jj 0] := by rw [List.take_succ_eq_append_getElem hl2, List.getD_eq_getElem?_getD, List.getElem?_eq_getElem hl2]; rfl
              have hsx := Lib.hid hs
              clear hs s4 s3 s2x hAd hA hB hc3 hc1 hc2
              generalize l0.getD jj 0 = y at *
              generalize hBd : decide (ty ∈ l0.take jj) = Bd at *
              have hBx := Lib.hid hBd
              clear hBd
              cases Bd with
              | true =>
                go_wp2_with fail
                go_quiet (fail)
                go_wp2_with fail
                go_roundw
                case rel => exact ⟨jj + 1, n2 + nq, by first | rfl | rw [World.drewN_drewN], by omega, by go_num, by rw [hsx.out]; have := of_decide_eq_true hBx.out; simp [this]⟩
                case measure => simp [intOf]; omega
              | false =>
                go_wp2_with fail
                go_quiet (fail)
                go_wp2_with fail
                go_roundw
                case rel =>
                  refine ⟨jj + 1, n2 + nq, by first | rfl | rw [World.drewN_drewN], by omega, by go_num, ?_⟩
                  have hno := of_decide_eq_false hBx.out
                  rw [hsx.out]
                  by_cases ke : y = ty
                  · subst ke; simp
                  · have ke2 : ¬ ty = y := fun h => ke h.symm
                    have e1 : (y == ty) = false := by simp [ke]
                    have e2 : decide (ty ∈ l0.take jj ++ [y]) = false := decide_eq_false (fun h => by rcases List.mem_append.1 h with h | h; exact hno h; exact ke2 (List.mem_singleton.1 h))
                    rw [e1, e2]
                case measure => simp [intOf]; omega
            · obtain rfl : jj = l0.length := by omega
              have ef : decide (ty ∈ l0.take l0.length) = true := decide_eq_true (by rw [List.take_length]; exact hmx.out)
              have ty1 : decide (ty ≤ 1) = false := decide_eq_false (by omega)
              rw [ef]
              clear ef
              go_wp2_with fail
              go_roundw
              case rel => exact ⟨j + 1, n2, rfl, by omega, by go_num⟩
              case measure => simp [intOf]; omega
        · obtain rfl : j = Q5.length := by omega
          have hfn : Fr (fun _ => False) wr (wr.drewN n) := (Fr.refl _ _).drewN n
          have HZ := HCx.out (wr.drewN n) _ _ (ho.fr hfn (fun _ _ h => h)).old (g1.fr hfn (fun _ _ h => h.elim))
          rw [fl_tys] at HZ
          have hk2 := kn_tys rs
          generalize kn (tys rs) rs = K2 at *
          have B4 := below_drewN' B3 n
          have hq1 : decide (Q5.length ≤ big rs) = true := decide_eq_true hkb.out.1
          have hkx := hkb.out.2
          obtain ⟨A6, c6, hsl⟩ := ho.slice
          subst hsl
          have HZx := Lib.hid HZ
          have hk2x := Lib.hid hk2
          clear HZ hk2 q5 g0 g1 ho hQm hfn
          go_wp2_with fail
          refine HZx.out.mono ?_
          rintro e w20 ⟨v16, rfl, o16, b16⟩
          have o16 : OR w20 (fun _ => False) v16 K2 := o16
          have B16 := B4.trans (b16.mono B4.size)
          obtain ⟨A16, c16, rfl⟩ := o16.slice
          rw [hk2x.out]
          clear o16 b16 HZx hk2x B3 B4
          cases hfl : fl l0 rs with
          | true =>
            clear hkx
            go_wp2_with (first
              | (go_at_call 42; refine (num5_any _ _).mono ?_; rintro e w8 ⟨rfl, hw8⟩; obtain rfl := hw8.symm)
              | (go_at_call 37; refine (live5_any _).mono ?_; rintro e w9 ⟨rfl, hf⟩))
            go_ret
            exact ⟨rfl, B16.trans (hf.mono B16.size)⟩
          | false =>
            have hq2 : decide (Q5.length < big rs) = true := decide_eq_true (hkx hfl)
            clear hkx
            go_wp2_with (first
              | (go_at_call 42; refine (num5_any _ _).mono ?_; rintro e w8 ⟨rfl, hw8⟩; obtain rfl := hw8.symm)
              | (go_at_call 37; refine (live5_any _).mono ?_; rintro e w9 ⟨rfl, hf⟩))
            go_ret
            exact ⟨rfl, B16.trans (hf.mono B16.size)⟩
end Go.Proofs.Ytgfhhnmhpncnlaa
