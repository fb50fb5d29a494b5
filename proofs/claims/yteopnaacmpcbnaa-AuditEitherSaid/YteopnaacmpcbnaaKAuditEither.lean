/-
  AuditEither's walk: it returns true. No condition.
-/
import Derived.Test.YteopnaacmpcbnaaJ
namespace Go.Proofs.Yteopnaacmpcbnaa
open Go.RowKit
set_option linter.unusedVariables false
set_option linter.unusedSimpArgs false

/-- Whether the chains of the first j numbers end. -/
def ChE (nx : List Int) (E : Nat → Bool) : Prop := ∀ i, i < nx.length → ∃ c, ChainR nx i c (E i)
theorem LoopR.pos {nx l : List Int} {ok : Bool} (h : LoopR nx l ok) : decide (0 < l.length) = ok := by
  rcases h with ⟨i, h1, h2, h3, rfl, h5⟩ | ⟨rfl, rfl, h3⟩
  · have := h2.ne (by omega) (by omega)
    exact decide_eq_true (by omega)
  · rfl
theorem all_succ (E : Nat → Bool) (j : Nat) (b : Bool) : (List.range (j + 1)).all (fun i => if i = j then b else E i) = ((List.range j).all E && b) := by
  rw [List.range_succ, List.all_append]
  congr 1
  · apply Bool.eq_iff_iff.2
    simp only [List.all_eq_true, List.mem_range]
    constructor
    · intro h x hx; have := h x hx; rwa [if_neg (by omega)] at this
    · intro h x hx; rw [if_neg (by omega)]; exact h x hx
  · simp
set_option maxRecDepth 100000 in
set_option maxHeartbeats 3200000 in
theorem AuditEither_walk (v0 : Value) (l0 : List Int) {w : World}
    (h0 : Row w (fun _ => False) 1 v0 l0.length (nums .i64 l0)) (f0 : ∀ x ∈ l0, (Lit.int .i64 x).wf = true) (y0 : l0.length * 8 ≤ 140737488351232) (w' : World) (hw : w' = w) :
    Calls Try.prog 4 #[v0] w' fun e w' => e = .returned (.bool true) ∧ Below w.heap.size w w' := by
  subst hw
  have g0 := h0.out
  obtain ⟨A0, c0, rfl, k0, k1⟩ := h0.head
  clear h0 f0
  by_cases d0 : 60 < l0.length
  · have e0 : decide (60 < l0.length) = true := decide_eq_true d0
    go_enter Try.func4, Try.ntmps4
    go_wp2_with (go_at_call 7; refine (live_any _).mono ?_; rintro e w1 ⟨rfl, hf⟩)
    go_ret
    exact ⟨rfl, hf⟩
  have e0 : decide (60 < l0.length) = false := decide_eq_false d0
  have H := Loop_any g0 (by omega)
  go_enter Try.func4, Try.ntmps4
  go_wp2_with fail
  refine H.mono ?_
  rintro e w1 ⟨L, B, v1, rfl, hL, o1, lo1, b1⟩
  have g0 := g0.later b1
  have q1 := own_old o1
  have s1 := b1.size
  have hLl := hL.len
  obtain ⟨A1, c1, rfl, k2, k3⟩ := own_slice o1
  replace hL := Lib.hid hL
  clear H o1 lo1 e0
  have g0 := Lib.hid g0
  have q1 := Lib.hid q1
  go_wp2_with fail
  go_loopw [5, 6] (fun x y wr => ∃ (j : Nat) (E : Nat → Bool), x = .bool ((List.range j).all E) ∧ y = .int .i64 j ∧ j ≤ l0.length ∧ Hid (∀ i, i < j → ∃ c, ChainR l0 i c (E i)) ∧ Below w1.heap.size w1 wr) (fun x y wr => l0.length - (intOf y).toNat)
  case atStart => exact ⟨0, fun _ => true, rfl, rfl, Nat.zero_le _, Lib.hid (fun i hi => by omega), Below.refl _ _⟩
  case round =>
    obtain ⟨j, E, rfl, rfl, hj, hE, bel⟩ := hrel
    obtain ⟨X, hX⟩ : ∃ X, (List.range j).all E = X := ⟨_, rfl⟩
    rw [hX]
    replace hX := Lib.hid hX
    have g2 := g0.out.later (bel.mono s1)
    by_cases hlt : j < l0.length
    · have H := Chain_any (g2.fresh (Nat.le_trans s1 bel.size)) j (by omega)
      clear g2
      go_wp2_with fail
      refine H.mono ?_
      rintro e w2 ⟨l, b, v2, rfl, hch, o2, lo2, b2⟩
      have bel2 := bel.trans (b2.mono bel.size)
      have hE2 : Hid (∀ i, i < j + 1 → ∃ c, ChainR l0 i c ((fun i => if i = j then b else E i) i)) := Lib.hid (fun i hi => by
        by_cases hij : i = j
        · subst hij; exact ⟨l, by simpa using hch⟩
        · obtain ⟨c, hc⟩ := hE.out i (by omega)
          exact ⟨c, by simpa [hij] using hc⟩)
      have hX2 : Hid ((List.range (j + 1)).all (fun i => if i = j then b else E i) = (X && b)) := Lib.hid (by rw [all_succ, hX.out])
      clear H hch o2 lo2 b2 hX hE
      cases X <;> cases b
      all_goals
        go_wp2_with fail
        go_roundw
        case rel => exact ⟨j + 1, _, by rw [hX2.out]; rfl, by go_num, by omega, hE2, bel2⟩
        case measure => simp [intOf]; omega
    · obtain rfl : j = l0.length := by omega
      have hB := hL.out.either E hE.out
      rw [hX.out] at hB
      subst hB
      have hpos := hL.out.pos
      have hrd : Hid (∀ (i : Nat) (x : Int), L[i]? = some x → 0 ≤ x ∧ x < l0.length ∧ L[(i + 1) % L.length]? = some (l0.getD x.toNat 0)) := Lib.hid (fun i x hx => hL.out.round hx)
      replace hpos := Lib.hid hpos
      have q2 := q1.out.later bel
      clear hL hX hE q1
      have q2 := Lib.hid q2
      replace g2 := Lib.hid g2
      go_wp2_with fail
      go_loopw [9] (fun x w4 => ∃ i n : Nat, x = .int .i64 i ∧ i ≤ L.length ∧ w4 = wr.drewN n) (fun x w4 => L.length - (intOf x).toNat)
      case atStart => exact ⟨0, 0, rfl, Nat.zero_le _, rfl⟩
      case round =>
        obtain ⟨i, n, rfl, hi, rfl⟩ := hrel
        by_cases hlt2 : i < L.length
        · obtain ⟨b, o, rfl, -, -, hcell⟩ := q2.out.at_ (by omega)
          obtain ⟨x, hx⟩ := get_some hlt2
          obtain ⟨hx0, hx1, hx2⟩ := hrd.out i x hx
          obtain ⟨m, rfl⟩ : ∃ m : Nat, x = m := ⟨x.toNat, by omega⟩
          obtain ⟨b0, o0, rfl, -, -, hcell0⟩ := g2.out.at_ (by omega)
          obtain ⟨z, hz⟩ := get_some (l := l0) (j := m) (by omega)
          rw [Int.toNat_natCast, List.getD_eq_getElem?_getD, hz] at hx2
          obtain ⟨r, hr⟩ : ∃ r, (i + 1) % L.length = r := ⟨_, rfl⟩
          rw [hr] at hx2
          have hrl : r < L.length := by rw [← hr]; exact Nat.mod_lt _ (by omega)
          have c1 := hcell _ _ (nums_get hx)
          have c2 := hcell _ _ (nums_get hx2)
          have c3 := hcell0 _ _ (nums_get hz)
          have hml : m < l0.length := by omega
          have hmod : ((i : Int) + 1).tmod (L.length : Int) = (r : Int) := by
            rw [Int.tmod_eq_emod_of_nonneg (by omega), ← hr, Int.natCast_emod]; rfl
          have hwr : IntKind.i64.wrap ((i : Int) + 1) = (i : Int) + 1 := IntWalk.i64_in _ (by omega)
          have hne : ¬ L = [] := fun h => by rw [h] at hlt2; simp at hlt2
          clear hcell hcell0 hx hx2 hz hx0 hx1 hr
          go_wp2_with fail
          go_quiet (fail)
          go_wp2_with fail
          go_roundw
          case rel => exact ⟨i + 1, n + nq, by go_num, by omega, by first | rfl | rw [World.drewN_drewN]⟩
          case measure => simp [intOf]; omega
        · obtain rfl : i = L.length := by omega
          have bel3 : Below w'.heap.size w' (wr.drewN n) := below_drewN (b1.trans (bel.mono s1)) n
          have hpos2 := hpos.out
          clear hrd q2 g2 hpos
          cases X
          all_goals
            go_wp2_with (go_at_call 7; refine (live_any _).mono ?_; rintro e w5 ⟨rfl, hf⟩)
            go_ret
            exact ⟨rfl, bel3.trans (hf.mono bel3.size)⟩
end Go.Proofs.Yteopnaacmpcbnaa
