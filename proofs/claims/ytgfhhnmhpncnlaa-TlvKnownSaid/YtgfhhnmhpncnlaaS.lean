/-
  slices.Index, slices.Contains of bytes. Condition: the bytes are read.
-/
import Derived.Test.YtgfhhnmhpncnlaaWB
namespace Go.Proofs.Ytgfhhnmhpncnlaa
open Go.RowKit
set_option linter.unusedVariables false
set_option linter.unusedSimpArgs false
set_option maxHeartbeats 1600000 in
theorem Index_any {w : World} {S : Nat → Prop} {x : Value} {l : List Int} (h : Bs w S x l) (t : Int) :
    Calls Try.prog 52 #[x, .int .u8 t] w fun e w' => ∃ i : Int, e = .returned (.int .i64 i) ∧ w' = w ∧ ((0 ≤ i ↔ t ∈ l) ∧ -1 ≤ i) := by
  obtain ⟨A, c, rfl, hc1, hc2, hc3, hB, hA⟩ := id h
  have hmx : l.length ≤ 9223372036854775807 := by unfold maxLen at hc2; omega
  have hA := Lib.hid hA
  have hc3 := Lib.hid hc3
  clear hB h
  go_enter Try.func52, Try.ntmps52
  go_wp2
  go_loopw [8] (fun i wr => wr = w ∧ ∃ j : Nat, j ≤ l.length ∧ i = .int .i64 j ∧ Hid (t ∉ l.take j)) (fun i _ => l.length - (intOf i).toNat)
  case atStart => exact ⟨rfl, 0, Nat.zero_le _, rfl, Lib.hid (by simp)⟩
  case round =>
    obtain ⟨rfl, j, hj, rfl, hn⟩ := hrel
    by_cases hlt : j < l.length
    · obtain ⟨a, rfl⟩ : ∃ a, A = some a := by
        cases A with
        | none => have := hc3.out rfl; omega
        | some a => exact ⟨a, rfl⟩
      obtain ⟨s1, s2, s3, s4⟩ := hA.out a rfl (by omega)
      obtain ⟨b, o, sp⟩ := a
      simp only at s1
      subst s1
      have hc := s4 j hlt
      rw [Addr.add_lit] at hc
      have hmem := getD_mem hlt
      have hs : l.take (j + 1) = l.take j ++ [l.getD j 0] := by rw [List.take_succ_eq_append_getElem hlt, List.getD_eq_getElem?_getD, List.getElem?_eq_getElem hlt]; rfl
      generalize l.getD j 0 = y at *
      have hs := Lib.hid hs
      clear s4 s3 s2
      by_cases ke : t = y
      · have keb : (t == y) = true := by simp [ke]
        have hmx := Lib.hid hmem
        subst ke
        go_wp2
        go_ret
        exact ⟨_, rfl, rfl, ⟨fun _ => hmx.out, fun _ => by omega⟩, by omega⟩
      · have keb : (t == y) = false := by simp [ke]
        have ke := Lib.hid ke
        go_wp2
        go_roundw
        case rel => exact ⟨by first | rfl | trivial, j + 1, by omega, by go_num, Lib.hid (by rw [hs.out]; intro hm; rcases List.mem_append.1 hm with hm | hm; exact hn.out hm; exact ke.out (List.mem_singleton.1 hm))⟩
        case measure => simp [intOf]; omega
    · obtain rfl : j = l.length := by omega
      have hn := Lib.hid (by have := hn.out; rwa [List.take_length] at this : t ∉ l)
      go_wp2
      go_ret
      exact ⟨_, rfl, rfl, ⟨fun h => by omega, fun h => absurd h hn.out⟩, by omega⟩
theorem Contains_any {w : World} {S : Nat → Prop} {x : Value} {l : List Int} (h : Bs w S x l) (t : Int) :
    Calls Try.prog 51 #[x, .int .u8 t] w fun e w' => e = .returned (.bool (decide (t ∈ l))) ∧ w' = w := by
  have H := Index_any h t
  obtain ⟨A, c, rfl, -⟩ := id h
  clear h
  go_enter Try.func51, Try.ntmps51
  go_wp2_with (go_at_call 52; refine H.mono ?_; rintro e w1 ⟨i, rfl, rfl, hi, hi2⟩)
  by_cases hm : t ∈ l
  · have h0 := hi.2 hm
    go_ret
    exact ⟨by first | (simp [hm]; done) | (simp [hm]; omega), rfl⟩
  · have h0 : ¬ 0 ≤ i := fun h => hm (hi.1 h)
    go_ret
    exact ⟨by first | (simp [hm]; done) | (simp [hm]; omega), rfl⟩
/-- The pieces of known types; whether every other may be passed over. -/
def kn (ts : List Int) (rs : List (Int × List Int)) : List (Int × List Int) := rs.filter (fun r => decide (1 < r.1) && decide (r.1 ∈ ts))
def fl (ts : List Int) (rs : List (Int × List Int)) : Bool := rs.all (fun r => decide (r.1 ≤ 1) || decide (r.1 ∈ ts) || decide (r.1 < 128))
theorem kn_snoc (ts : List Int) (rs : List (Int × List Int)) (j : Nat) (h : j < rs.length) : kn ts (rs.take (j + 1)) = kn ts (rs.take j) ++ if 1 < (rs[j]).1 ∧ (rs[j]).1 ∈ ts then [rs[j]] else [] := by
  unfold kn
  rw [List.take_succ_eq_append_getElem h, List.filter_append]
  congr 1
  by_cases c : 1 < (rs[j]).1 ∧ (rs[j]).1 ∈ ts
  · rw [if_pos c]; simp [c]
  · rw [if_neg c]; simp at c ⊢; exact c
theorem fl_snoc (ts : List Int) (rs : List (Int × List Int)) (j : Nat) (h : j < rs.length) : fl ts (rs.take (j + 1)) = (fl ts (rs.take j) && (decide ((rs[j]).1 ≤ 1) || decide ((rs[j]).1 ∈ ts) || decide ((rs[j]).1 < 128))) := by
  unfold fl
  rw [List.take_succ_eq_append_getElem h, List.all_append]; simp
theorem kn_le (ts : List Int) (rs : List (Int × List Int)) : (kn ts rs).length ≤ rs.length := List.length_filter_le _ _

theorem spl_ty : ∀ (F : Nat) (acc : List (Int × List Int)) (p : List Int), isB p → (∀ r ∈ acc, 0 ≤ r.1 ∧ r.1 < 256) → (spl F acc p).1.length ≤ acc.length + F ∧ ∀ r ∈ (spl F acc p).1, 0 ≤ r.1 ∧ r.1 < 256
  | 0, acc, p, _, ha => ⟨by simp [spl], by simpa [spl] using ha⟩
  | F + 1, acc, [], _, ha => ⟨by simp [spl], by simpa [spl] using ha⟩
  | F + 1, acc, t :: rest, hB, ha => by
    have ht := hB t (by simp)
    by_cases t0 : t = 0
    · have e : spl (F + 1) acc (t :: rest) = spl F (acc ++ [(0, [])]) rest := by simp [spl, t0]
      rw [e]
      have := spl_ty F (acc ++ [(0, [])]) rest (fun x h => hB x (by simp [h])) (fun r h => by rcases List.mem_append.1 h with h | h; exact ha r h; obtain rfl := List.mem_singleton.1 h; decide)
      exact ⟨by have := this.1; simp at this; omega, this.2⟩
    · match rest, hB with
      | [], _ => exact ⟨by simp [spl, t0], by simpa [spl, t0] using ha⟩
      | n :: q, hB =>
        by_cases hc : n > q.length
        · have e : spl (F + 1) acc (t :: n :: q) = (acc, 52) := by rw [spl, if_neg t0]; exact if_pos hc
          rw [e]
          exact ⟨by simp, ha⟩
        · have e : spl (F + 1) acc (t :: n :: q) = spl F (acc ++ [(t, q.take n.toNat)]) (q.drop n.toNat) := by rw [spl, if_neg t0]; exact if_neg hc
          rw [e]
          have := spl_ty F (acc ++ [(t, q.take n.toNat)]) (q.drop n.toNat) (fun x h => hB x (by have := List.mem_of_mem_drop h; simp [this])) (fun r h => by rcases List.mem_append.1 h with h | h; exact ha r h; obtain rfl := List.mem_singleton.1 h; exact ht)
          exact ⟨by have := this.1; simp at this; omega, this.2⟩
set_option maxRecDepth 100000 in
set_option maxHeartbeats 3200000 in
theorem Sub_any {w : World} {S : Nat → Prop} {x y : Value} {ts p : List Int} (hx : Bs w (fun b => w.heap.size ≤ b) x ts) (hy : Bs w S y p) (hl : p.length ≤ 4000000000) :
    Calls Try.prog 47 #[x, y] w fun e w' => ∃ v', e = .returned (.tuple #[v', .bool (fl ts (spl p.length [] p).1), .int .i64 (spl p.length [] p).2]) ∧ OR w' (fun _ => False) v' (kn ts (spl p.length [] p).1) ∧ Below w.heap.size w w' := by
  have HS := Split_any hy (by omega)
  obtain ⟨⟨rs, er⟩, hq⟩ : ∃ q, spl p.length [] p = q := ⟨_, rfl⟩
  have hB := hy.news'
  rw [hq] at HS ⊢
  have hrl : rs.length ≤ 4000000000 ∧ ∀ r ∈ rs, 0 ≤ r.1 ∧ r.1 < 256 := by
    have := spl_ty p.length [] p hB (fun r h => by cases h)
    rw [hq] at this
    exact ⟨by have := this.1; simp at this; omega, this.2⟩
  obtain ⟨A0, c0, rfl, -⟩ := id hy
  obtain ⟨A1, c1, rfl, -⟩ := id hx
  clear hq hB hy
  obtain ⟨hrl, hty⟩ := hrl
  have htx := Lib.hid hty
  clear hty
  go_enter Try.func47, Try.ntmps47
  go_wp2_with fail
  refine HS.mono ?_
  rintro e w1 ⟨v7, rfl, o7, b1⟩
  have q7 : RawsB w1 (fun b => w1.heap.size ≤ b) v7 rs := OR.raws (rs := rs) o7
  have x1 := hx.later b1
  obtain ⟨A7, c7, rfl, hmx, -⟩ := q7.at_
  clear HS o7
  go_wp2_with fail
  go_loopw [9, 10, 20] (fun u f i wr => ∃ j : Nat, j ≤ rs.length ∧ i = .int .i64 j ∧ f = .bool (fl ts (rs.take j)) ∧ OR wr (fun _ => False) u (kn ts (rs.take j)) ∧ Lo w1.heap.size u ∧ Below w1.heap.size w1 wr) (fun _ _ i _ => rs.length - (intOf i).toNat)
  case atStart => exact ⟨0, Nat.zero_le _, rfl, rfl, OR.nil _ _, Lo.nil _, Below.refl _ _⟩
  case round =>
    obtain ⟨j, hj, rfl, rfl, ho, hlo, bel⟩ := hrel
    by_cases hlt : j < rs.length
    · obtain ⟨A', c', hA, -, hat⟩ := (q7.later bel).at_
      obtain ⟨rfl, -, rfl⟩ : A7 = A' ∧ rs.length = rs.length ∧ c7 = c' := by injection hA with a b c; exact ⟨a, b, c⟩
      obtain ⟨b, o, u, rfl, p1, p2, p3, p4, p5⟩ := hat j hlt
      have hkn := kn_snoc ts rs j hlt
      have hfl := fl_snoc ts rs j hlt
      have hty := htx.out _ (List.getElem_mem hlt)
      have hkl : (kn ts (rs.take j)).length ≤ j := Nat.le_trans (kn_le _ _) (by rw [List.length_take]; omega)
      have hkl2 : ((kn ts (rs.take j)).length + 1) * 32 ≤ 140737488355328 := by omega
      generalize kn ts (rs.take j) = K0 at *
      generalize fl ts (rs.take j) = F0 at *
      generalize rs[j] = r at *
      obtain ⟨ty, l⟩ := r
      simp only at hty hkn hfl p3
      obtain ⟨A2, c2, rfl, -⟩ := id p5
      have hal : Fr (fun _ => False) wr (wr.alloc (.cells #[.int .u8 ty, .slice A2 l.length c2] 82)) := (Fr.refl _ wr).alloc _
      have hsz : (wr.alloc (.cells #[.int .u8 ty, .slice A2 l.length c2] 82)).heap.size = wr.heap.size + 1 := by simp
      have o1 := ho.fr hal (fun _ _ h => h) (fun _ h => h.elim)
      have bel1 := bel.alloc bel.size (.cells #[.int .u8 ty, .slice A2 l.length c2] 82)
      have u1 : Bs (wr.alloc (.cells #[.int .u8 ty, .slice A2 l.length c2] 82)) (fun b => u9.ownBlock = some b ∨ False) (.slice A2 l.length c2) l := (p5.fr hal (fun _ _ h => h.elim)).mono_l rfl (fun b hb => hb.elim (hlo b) (fun h => h.elim))
      have HC := Contains_any ((x1.later (bel1.mono b1.size))) ty
      have Hkn := Lib.hid hkn; have Hfl := Lib.hid hfl; have Hsz := Lib.hid hsz
      clear hat p1 p2 p5 hA hkn hfl hsz
      by_cases t0 : ty = 0
      · subst t0
        go_wp2_with fail
        go_roundw
        case rel => exact ⟨j + 1, by omega, by go_num, by rw [Hfl.out]; simp, by rw [Hkn.out]; simpa using o1, hlo, bel1⟩
        case measure => simp [intOf]; omega
      by_cases t1 : ty = 1
      · subst t1
        go_wp2_with fail
        go_roundw
        case rel => exact ⟨j + 1, by omega, by go_num, by rw [Hfl.out]; simp, by rw [Hkn.out]; simpa using o1, hlo, bel1⟩
        case measure => simp [intOf]; omega
      have t0b : (ty == 0) = false := by simp [t0]
      have t1b : (ty == 1) = false := by simp [t1]
      have tgt : 1 < ty := by omega
      by_cases tm : ty ∈ ts
      · have tmd : decide (ty ∈ ts) = true := decide_eq_true tm
        rw [tmd] at HC
        have Htm := Lib.hid (And.intro tgt tm)
        clear tm tmd
        go_wp2_with (first
          | (go_at_call 51; refine HC.mono ?_; rintro e w3 ⟨rfl, hw3⟩; obtain rfl := hw3.symm)
          | (at_builtin; refine wpList_appR rfl (.tmp 34) (.tmp 36) rfl rfl o1 (congrArg (fun n => Value.slice (some ⟨n, 0, none⟩) 1 1) Hsz.out.symm) u1 hkl2 ?_; intro v6 w6 o6 n6 f6))
        go_roundw
        case rel => exact ⟨j + 1, by omega, by go_num, by rw [Hfl.out, decide_eq_true Htm.out.2]; simp, by rw [Hkn.out, if_pos Htm.out]; exact o6, hlo.next n6 bel1.size, bel1.trans (f6.belowB hlo bel1.size)⟩
        case measure => simp [intOf]; omega
      · have tmd : decide (ty ∈ ts) = false := decide_eq_false tm
        rw [tmd] at HC
        have Htm := Lib.hid tm
        have Htg := Lib.hid tgt
        clear tm tmd
        cases F0 with
        | true =>
          go_wp2_with (go_at_call 51; refine HC.mono ?_; rintro e w3 ⟨rfl, hw3⟩; obtain rfl := hw3.symm)
          go_roundw
          case rel => exact ⟨j + 1, by omega, by go_num, by rw [Hfl.out, decide_eq_false Htm.out, decide_eq_false (show ¬ ty ≤ 1 by omega)]; simp, by rw [Hkn.out, if_neg (fun h => Htm.out h.2)]; simpa using o1, hlo, bel1⟩
          case measure => simp [intOf]; omega
        | false =>
          go_wp2_with (go_at_call 51; refine HC.mono ?_; rintro e w3 ⟨rfl, hw3⟩; obtain rfl := hw3.symm)
          go_roundw
          case rel => exact ⟨j + 1, by omega, by go_num, by rw [Hfl.out]; simp, by rw [Hkn.out, if_neg (fun h => Htm.out h.2)]; simpa using o1, hlo, bel1⟩
          case measure => simp [intOf]; omega
    · obtain rfl : j = rs.length := by omega
      rw [List.take_length] at ho
      have e7 : fl ts (rs.take rs.length) = fl ts rs := by rw [List.take_length]
      go_wp2_with fail
      go_ret3
      exact ⟨_, by rw [e7]; rfl, ho, b1.trans (bel.mono b1.size)⟩
end Go.Proofs.Ytgfhhnmhpncnlaa
