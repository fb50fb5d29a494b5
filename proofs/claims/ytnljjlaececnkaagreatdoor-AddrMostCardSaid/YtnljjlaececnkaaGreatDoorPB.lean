/-
  Addresses and prefixes that are printed are read again: plain laws. Condition: an address is sixteen bytes.
-/
import Derived.Test.YtnljjlaececnkaaGreatDoorPA
import Derived.Test.YtnljjlaececnkaaGreatDoorXC
import Derived.Test.YtnljjlaececnkaaGreatDoorU
namespace Go.Proofs.YtnljjlaececnkaaGreatDoor
open Go.RowKit
set_option linter.unusedVariables false
set_option linter.unusedSimpArgs false
/-- An address of IPv4 as four numbers. -/
def dottedS (a : List Int) : List UInt8 := Lib.join ((a.drop 12).map Lib.itoa) [46]
/-- An address's text. -/
def printS (a : List Int) : List UInt8 := if fam a = 4 then dottedS a else groupedS a
/-- A prefix's text. -/
def pfxS (p : Pf) : List UInt8 := if chk p then (if pfam p = 4 then dottedS p.a ++ 47 :: Lib.itoa (p.n - 96) else groupedS p.a ++ 47 :: Lib.itoa p.n) else []
theorem dec_bytes : ∀ (k u : Nat), u ≤ k → ∀ c ∈ Lib.decDigits u, 48 ≤ c.toNat ∧ c.toNat ≤ 57
  | k, u, hk => by
    intro c hc
    rw [Lib.decDigits] at hc
    split at hc
    · rename_i h
      simp only [List.mem_singleton] at hc
      subst hc
      rw [digit_nat h]; omega
    · rename_i h
      rcases List.mem_append.1 hc with hc | hc
      · exact dec_bytes (k - 1) (u / 10) (by omega) c hc
      · simp only [List.mem_singleton] at hc
        subst hc
        rw [digit_nat (by omega)]; omega
termination_by k => k
decreasing_by omega
theorem itoa_bytes {x : Int} (h : 0 ≤ x) : ∀ c ∈ Lib.itoa x, 48 ≤ c.toNat ∧ c.toNat ≤ 57 := by
  obtain ⟨u, rfl⟩ : ∃ u : Nat, x = u := ⟨x.toNat, by omega⟩
  rw [Lib.itoa_nonneg]
  exact dec_bytes u u (Nat.le_refl _)
theorem ndig3 {u : Nat} (h : u < 1000) : Lib.nDigits u ≤ 3 := by
  by_cases h1 : u < 10
  · rw [Lib.nDigits_small h1]; omega
  · rw [Lib.nDigits_big h1]
    by_cases h2 : u / 10 < 10
    · rw [Lib.nDigits_small h2]; omega
    · rw [Lib.nDigits_big h2, Lib.nDigits_small (by omega)]; omega
theorem decS_itoa {x : Int} (h0 : 0 ≤ x) (h1 : x < 1000) : decS ⟨(Lib.itoa x).toArray⟩ 3 = some x := by
  obtain ⟨u, rfl⟩ : ∃ u : Nat, x = u := ⟨x.toNat, by omega⟩
  rw [decS_F (by decide)]
  show decF (Lib.itoa (u : Int)).toArray.toList 3 = _
  rw [List.toList_toArray, Lib.itoa_nonneg]
  exact decF_dec (by rw [Lib.decDigits_length]; have := ndig3 (u := u) (by omega); omega)
theorem octS_itoa {x : Int} (h0 : 0 ≤ x) (h1 : x < 256) : octS ⟨(Lib.itoa x).toArray⟩ = some x := by
  unfold octS
  rw [decS_itoa h0 (by omega)]
  exact if_pos (by omega)
theorem last4 {a : List Int} (ha : isA a) : ∃ x y z t, a.drop 12 = [x, y, z, t] ∧ (0 ≤ x ∧ x < 256) ∧ (0 ≤ y ∧ y < 256) ∧ (0 ≤ z ∧ z < 256) ∧ (0 ≤ t ∧ t < 256) := by
  have hl : (a.drop 12).length = 4 := by rw [List.length_drop, ha.1]
  have hb : ∀ x ∈ a.drop 12, 0 ≤ x ∧ x < 256 := fun x hx => ha.2 x (List.mem_of_mem_drop hx)
  rcases h : a.drop 12 with _ | ⟨x, _ | ⟨y, _ | ⟨z, _ | ⟨t, _ | ⟨u, r⟩⟩⟩⟩⟩ <;> rw [h] at hl hb <;> simp at hl
  exact ⟨x, y, z, t, rfl, hb x (by simp), hb y (by simp), hb z (by simp), hb t (by simp)⟩
theorem ne_of_digit {c d : UInt8} (h : 48 ≤ c.toNat ∧ c.toNat ≤ 57) (hd : d.toNat < 48 ∨ 57 < d.toNat) : c ≠ d := by rintro rfl; omega
theorem dotted_four {x y z t : Int} : Lib.join ([x, y, z, t].map Lib.itoa) [46] = Lib.itoa x ++ 46 :: (Lib.itoa y ++ 46 :: (Lib.itoa z ++ 46 :: Lib.itoa t)) := by
  simp [Lib.join_cons, Lib.joinTail]
theorem quad_dotted {a : List Int} (ha : isA a) (h4 : fam a = 4) : quadS ⟨(dottedS a).toArray⟩ = some a := by
  obtain ⟨x, y, z, t, hd, hx, hy, hz, ht⟩ := last4 ha
  have h12 : a.take 12 = mapd := by
    unfold fam at h4
    split at h4
    · assumption
    · omega
  have nd : ∀ {x : Int}, 0 ≤ x → ∀ c ∈ Lib.itoa x, c ≠ 46 := fun h c hc => ne_of_digit (itoa_bytes h c hc) (by decide)
  have hp : pieces ⟨(dottedS a).toArray⟩ dotB = [⟨(Lib.itoa x).toArray⟩, ⟨(Lib.itoa y).toArray⟩, ⟨(Lib.itoa z).toArray⟩, ⟨(Lib.itoa t).toArray⟩] := by
    show pieces _ ⟨#[46]⟩ = _
    rw [pieces_eq]
    unfold cutB dottedS
    rw [hd, dotted_four]
    simp only [List.toList_toArray]
    rw [cutL_at (nd hx.1), cutL_at (nd hy.1), cutL_at (nd hz.1), cutL_miss (nd ht.1)]
    rfl
  unfold quadS quadL
  rw [hp, if_pos]
  · simp only [List.map_cons, List.map_nil, octV, octS_itoa hx.1 hx.2, octS_itoa hy.1 hy.2, octS_itoa hz.1 hz.2, octS_itoa ht.1 ht.2, Option.getD_some]
    rw [← h12, ← hd, List.take_append_drop]
  · refine ⟨rfl, ?_⟩
    simp only [List.all_cons, List.all_nil, octS_itoa hx.1 hx.2, octS_itoa hy.1 hy.2, octS_itoa hz.1 hz.2, octS_itoa ht.1 ht.2]
    rfl
/-! ### groups -/
theorem dig_facts : ∀ f : Fin 16, hexD (dig f.val) = some f.val ∧ dig f.val ≠ 58 ∧ dig f.val ≠ 46 ∧ dig f.val ≠ 47 ∧ dig f.val ≠ 32 := by decide
theorem hexFrom_snoc : ∀ (l : List UInt8) (acc : Nat) (c : UInt8), hexFrom acc (l ++ [c]) = match hexFrom acc l with | some n => (match hexD c with | some d => some (16 * n + d) | none => none) | none => none
  | [], acc, c => by
    cases h : hexD c <;> simp [hexFrom, h]
  | x :: l, acc, c => by
    simp only [List.cons_append, hexFrom]
    split
    · exact hexFrom_snoc l _ c
    · rfl
theorem hexFrom_hexT : ∀ (k u : Nat), u ≤ k → hexFrom 0 (hexT u) = some u
  | k, u, hk => by
    by_cases h : u < 16
    · have := (dig_facts ⟨u, h⟩).1
      rw [hexT_small h]
      simp only [hexFrom, this]; simp
    · have := (dig_facts ⟨u % 16, by omega⟩).1
      rw [hexT_big h, hexFrom_snoc, hexFrom_hexT (k - 1) (u / 16) (by omega)]
      simp only [this]
      congr 1; omega
termination_by k => k
decreasing_by omega
/-- No byte of the four. -/
def plainB (c : UInt8) : Prop := c ≠ 58 ∧ c ≠ 46 ∧ c ≠ 47 ∧ c ≠ 32
theorem hexT_bytes : ∀ (k u : Nat), u ≤ k → ∀ c ∈ hexT u, plainB c
  | k, u, hk => by
    intro c hc
    by_cases h : u < 16
    · rw [hexT_small h, List.mem_singleton] at hc
      subst hc
      exact (dig_facts ⟨u, h⟩).2
    · rw [hexT_big h] at hc
      rcases List.mem_append.1 hc with hc | hc
      · exact hexT_bytes (k - 1) (u / 16) (by omega) c hc
      · rw [List.mem_singleton] at hc
        subst hc
        exact (dig_facts ⟨u % 16, by omega⟩).2
termination_by k => k
decreasing_by omega
theorem hexT_plain (u : Nat) : ∀ c ∈ hexT u, plainB c := hexT_bytes u u (Nat.le_refl _)
theorem hexT_ne (u : Nat) : hexT u ≠ [] := by
  by_cases h : u < 16
  · rw [hexT_small h]; simp
  · rw [hexT_big h]; simp
theorem grp_hex {u : Nat} (h : u < 65536) : grpS (hexB u) = some u := by
  have hs : (hexB u).size = (hexT u).length := by show (hexT u).toArray.size = _; simp
  have h1 := hexT_len 3 u (by omega)
  have h0 := List.length_pos_iff.2 (hexT_ne u)
  unfold grpS
  rw [if_neg (by omega)]
  show hexFrom 0 (hexT u).toArray.toList = _
  rw [List.toList_toArray]
  exact hexFrom_hexT u u (Nat.le_refl _)
/-- A colon is followed by another byte. -/
def Sepd (l : List UInt8) : Prop := ∀ j : Nat, l[j]? = some 58 → ∃ c, l[j + 1]? = some c ∧ c ≠ 58
theorem sep_nil : Sepd [] := fun j h => by simp at h
theorem sep_app {x t : List UInt8} (hx : ∀ c ∈ x, c ≠ 58) (ht : Sepd t) : Sepd (x ++ t) := by
  intro j hj
  by_cases h : j < x.length
  · rw [List.getElem?_append_left h] at hj
    exact absurd rfl (hx 58 (List.mem_of_getElem? hj))
  · rw [List.getElem?_append_right (by omega)] at hj
    obtain ⟨c, h1, h2⟩ := ht _ hj
    exact ⟨c, by rw [List.getElem?_append_right (by omega), show j + 1 - x.length = j - x.length + 1 by omega]; exact h1, h2⟩
theorem sep_cons {x t : List UInt8} (hne : x ≠ []) (hx : ∀ c ∈ x, c ≠ 58) (ht : Sepd t) : Sepd (58 :: (x ++ t)) := by
  intro j hj
  cases j with
  | zero =>
    cases x with
    | nil => exact absurd rfl hne
    | cons c x => exact ⟨c, rfl, hx c (by simp)⟩
  | succ j =>
    rw [List.getElem?_cons_succ] at hj ⊢
    exact sep_app hx ht j hj
theorem tail_cons (u : Nat) (l : List Nat) : Lib.joinTail [58] ((u :: l).map hexT) = 58 :: (hexT u ++ Lib.joinTail [58] (l.map hexT)) := by simp [Lib.joinTail]
theorem tail_sep : ∀ l : List Nat, Sepd (Lib.joinTail [58] (l.map hexT))
  | [] => sep_nil
  | u :: l => by
    rw [tail_cons]
    exact sep_cons (hexT_ne u) (fun c hc => (hexT_plain u c hc).1) (tail_sep l)
theorem joinS_cons (u : Nat) (l : List Nat) : joinS (u :: l) = hexT u ++ Lib.joinTail [58] (l.map hexT) := by
  unfold joinS; rw [List.map_cons, Lib.join_cons]
theorem joinS_nil : joinS [] = [] := rfl
theorem joinS_sep (l : List Nat) : Sepd (joinS l) := by
  cases l with
  | nil => exact sep_nil
  | cons u l => rw [joinS_cons]; exact sep_app (fun c hc => (hexT_plain u c hc).1) (tail_sep l)
theorem tail_bytes : ∀ l : List Nat, ∀ c ∈ Lib.joinTail [58] (l.map hexT), c ≠ 46 ∧ c ≠ 47 ∧ c ≠ 32
  | [], c, h => by simp [Lib.joinTail] at h
  | u :: l, c, h => by
    rw [tail_cons] at h
    rcases List.mem_cons.1 h with rfl | h
    · decide
    · rcases List.mem_append.1 h with h | h
      · exact (hexT_plain u c h).2
      · exact tail_bytes l c h
theorem joinS_bytes (l : List Nat) : ∀ c ∈ joinS l, c ≠ 46 ∧ c ≠ 47 ∧ c ≠ 32 := by
  cases l with
  | nil => intro c h; simp [joinS_nil] at h
  | cons u l =>
    intro c h
    rw [joinS_cons] at h
    rcases List.mem_append.1 h with h | h
    · exact (hexT_plain u c h).2
    · exact tail_bytes l c h
theorem grouped_bytes (a : List Int) : ∀ c ∈ groupedS a, c ≠ 46 ∧ c ≠ 47 ∧ c ≠ 32 := by
  intro c h
  unfold groupedS at h
  simp only at h
  split at h
  · exact joinS_bytes _ c h
  · rcases List.mem_append.1 h with h | h
    · rcases List.mem_append.1 h with h | h
      · exact joinS_bytes _ c h
      · simp at h; rcases h with rfl | rfl <;> decide
    · exact joinS_bytes _ c h
theorem occ_two (s : List UInt8) (j : Nat) : Lib.occAt s [58, 58] j = true ↔ s[j]? = some 58 ∧ s[j + 1]? = some 58 := by
  have e0 : s[j]? = (s.drop j)[0]? := by rw [List.getElem?_drop]; rfl
  have e1 : s[j + 1]? = (s.drop j)[1]? := by rw [List.getElem?_drop]
  rw [e0, e1]
  unfold Lib.occAt
  rcases s.drop j with _ | ⟨x, _ | ⟨y, t⟩⟩
  · simp [List.isPrefixOf]
  · simp [List.isPrefixOf]
  · constructor
    · intro h
      simp [List.isPrefixOf] at h
      obtain ⟨rfl, rfl⟩ := h
      exact ⟨rfl, rfl⟩
    · rintro ⟨h1, h2⟩
      cases h1; cases h2
      simp [List.isPrefixOf]
theorem index_sep {J : List UInt8} (h : Sepd J) : Lib.index J [58, 58] = -1 := Lib.index_none fun j _ => by
  rw [Bool.eq_false_iff]
  intro ho
  obtain ⟨h1, h2⟩ := (occ_two J j).1 ho
  obtain ⟨c, h3, h4⟩ := h j h1
  rw [h2] at h3; cases h3; exact h4 rfl
theorem index_gap {J : List UInt8} (h : Sepd J) (R : List UInt8) : Lib.index (J ++ [58, 58] ++ R) [58, 58] = J.length := by
  refine Lib.index_first (by simp) ((occ_two _ _).2 ⟨?_, ?_⟩) fun j hj => ?_
  · rw [List.append_assoc, List.getElem?_append_right (Nat.le_refl _), Nat.sub_self]; rfl
  · rw [List.append_assoc, List.getElem?_append_right (by omega), show J.length + 1 - J.length = 1 by omega]; rfl
  · rw [Bool.eq_false_iff]
    intro ho
    obtain ⟨h1, h2⟩ := (occ_two _ j).1 ho
    rw [List.append_assoc, List.getElem?_append_left hj] at h1
    obtain ⟨c, h3, h4⟩ := h j h1
    have hj2 := (List.getElem?_eq_some_iff.1 h3).1
    rw [List.append_assoc, List.getElem?_append_left hj2, h3] at h2
    cases h2; exact h4 rfl
theorem cut_sep {J : List UInt8} (h : Sepd J) : Lib.cut J [58, 58] = (J, [], false) := by
  unfold Lib.cut
  rw [index_sep h, if_neg (by decide)]
theorem cut_gap {J : List UInt8} (h : Sepd J) (R : List UInt8) : Lib.cut (J ++ [58, 58] ++ R) [58, 58] = (J, R, true) := by
  unfold Lib.cut
  rw [index_gap h R, if_pos (by omega)]
  have e : ((J.length : Int)).toNat = J.length := by omega
  rw [e, List.append_assoc, List.take_left, List.length_cons, List.length_cons, List.length_nil, ← List.append_assoc]
  have : (J ++ [58, 58]).length = J.length + (0 + 1 + 1) := by simp
  rw [← this, List.drop_left]
/-- The bytes of groups. -/
def fb (l : List Nat) : List Int := (l.map fun u => [((u / 256 : Nat) : Int), ((u % 256 : Nat) : Int)]).flatten
theorem fb_app (l m : List Nat) : fb (l ++ m) = fb l ++ fb m := by simp [fb]
theorem fb_len (l : List Nat) : (fb l).length = 2 * l.length := by
  induction l with
  | nil => rfl
  | cons u l ih => simp only [fb, List.map_cons, List.flatten_cons, List.length_append, List.length_cons, List.length_nil] at *; omega
theorem fb_zeros : ∀ k, fb (List.replicate k 0) = List.replicate (2 * k) 0
  | 0 => rfl
  | k + 1 => by
    rw [List.replicate_succ, show (0 :: List.replicate k 0 : List Nat) = [0] ++ List.replicate k 0 from rfl, fb_app, fb_zeros k, show 2 * (k + 1) = 2 * k + 1 + 1 by omega, List.replicate_succ, List.replicate_succ]; rfl
theorem cut_join (u : Nat) : ∀ l : List Nat, cutL 58 (joinS (u :: l)) = (u :: l).map hexT := by
  have key : ∀ (l : List Nat) (x : List UInt8), (∀ c ∈ x, c ≠ 58) → cutL 58 (x ++ Lib.joinTail [58] (l.map hexT)) = x :: l.map hexT := by
    intro l
    induction l with
    | nil => intro x hx; simpa [Lib.joinTail] using cutL_miss hx
    | cons v l ih =>
      intro x hx
      rw [tail_cons, cutL_at hx, ih _ (fun c hc => (hexT_plain v c hc).1)]; rfl
  intro l
  rw [joinS_cons, key l _ (fun c hc => (hexT_plain u c hc).1)]; rfl
theorem grps_join {l : List Nat} (h : ∀ u ∈ l, u < 65536) : grpsS ⟨(joinS l).toArray⟩ = some (fb l) := by
  cases l with
  | nil => rfl
  | cons u l =>
    have hsz : (⟨(joinS (u :: l)).toArray⟩ : ByteArray).size ≠ 0 := by
      have h0 := List.length_pos_iff.2 (hexT_ne u)
      show (joinS (u :: l)).toArray.size ≠ 0
      rw [List.size_toArray, joinS_cons, List.length_append]; omega
    have hp : pieces ⟨(joinS (u :: l)).toArray⟩ colB = (u :: l).map hexB := by
      show pieces _ ⟨#[58]⟩ = _
      rw [pieces_eq]
      unfold cutB
      simp only [List.toList_toArray]
      rw [cut_join, List.map_map]; rfl
    unfold grpsS
    rw [if_neg hsz, hp]
    unfold grpsL
    rw [if_pos]
    · congr 1
      unfold fb
      rw [List.map_map]
      congr 1
      apply List.map_congr_left
      intro v hv
      show grpV (hexB v) = _
      unfold grpV
      rw [grp_hex (h v hv)]; rfl
    · rw [List.all_eq_true]
      intro t ht
      obtain ⟨v, hv, rfl⟩ := List.mem_map.1 ht
      rw [grp_hex (h v hv)]; rfl
theorem zc_all : ∀ (l : List Nat) (j : Nat), j < zc l → l[j]? = some 0
  | [], j, h => by simp [zc] at h
  | x :: l, j, h => by
    unfold zc at h
    split at h
    · rename_i hx
      cases j with
      | zero => simp [hx]
      | succ j => rw [List.getElem?_cons_succ]; exact zc_all l j (by omega)
    · omega
theorem run_zero (l : List Nat) : ∀ k j, (runAt l k).1 ≤ j → j < (runAt l k).2 → l[j]? = some 0
  | 0, j, h1, h2 => by simp [runAt] at h2
  | k + 1, j, h1, h2 => by
    unfold runAt runStep at h1 h2
    split at h1
    · rename_i hc
      rw [if_pos hc] at h2
      simp only at h1 h2
      have := zc_all (l.drop k) (j - k) (by omega)
      rw [List.getElem?_drop] at this
      rwa [show k + (j - k) = j by omega] at this
    · rename_i hc
      rw [if_neg hc] at h2
      exact run_zero l k j h1 h2
theorem mid_zeros {l : List Nat} {lo hi : Nat} (h1 : lo ≤ hi) (h2 : hi ≤ l.length) (h : ∀ j, lo ≤ j → j < hi → l[j]? = some 0) : l = l.take lo ++ List.replicate (hi - lo) 0 ++ l.drop hi := by
  apply List.ext_getElem?
  intro j
  have t : (l.take lo).length = lo := by rw [List.length_take]; omega
  by_cases c1 : j < lo
  · rw [List.append_assoc, List.getElem?_append_left (by omega), List.getElem?_take_of_lt c1]
  · by_cases c2 : j < hi
    · rw [List.append_assoc, List.getElem?_append_right (by omega), List.getElem?_append_left (by simp; omega), List.getElem?_replicate, if_pos (by omega), h j (by omega) c2]
    · rw [List.getElem?_append_right (by simp; omega), List.getElem?_drop]
      congr 1
      simp; omega
theorem fb_groups {a : List Int} (ha : isA a) : fb (groups a) = a := by
  have key : ∀ n, n ≤ 8 → fb ((List.range n).map (gr a)) = a.take (2 * n) := by
    intro n
    induction n with
    | zero => intro _; rfl
    | succ n ih =>
      intro hn
      obtain ⟨x, hx, hx2, x0, x1⟩ := isA_getD ha (j := 2 * n) (by omega)
      obtain ⟨y, hy, hy2, y0, y1⟩ := isA_getD ha (j := 2 * n + 1) (by omega)
      rw [List.range_succ, List.map_append, fb_app, ih (by omega), show 2 * (n + 1) = 2 * n + 1 + 1 by omega, take_snoc hy, take_snoc hx, List.append_assoc]
      congr 1
      show fb [gr a n] = [x] ++ [y]
      have e1 : ((gr a n / 256 : Nat) : Int) = x := by unfold gr; rw [hx2, hy2]; omega
      have e2 : ((gr a n % 256 : Nat) : Int) = y := by unfold gr; rw [hx2, hy2]; omega
      simp only [fb, List.map_cons, List.map_nil, List.flatten_cons, List.flatten_nil, List.append_nil]
      rw [e1, e2]; rfl
  have := key 8 (Nat.le_refl _)
  rw [List.take_of_length_le (by rw [ha.1]; exact Nat.le_refl _)] at this
  exact this
theorem runAt_two (l : List Nat) : ∀ k, (runAt l k).2 = (runAt l k).1 ∨ (runAt l k).1 + 2 ≤ (runAt l k).2
  | 0 => .inl rfl
  | k + 1 => by
    unfold runAt runStep
    split
    · right; simp only; omega
    · exact runAt_two l k
theorem col_grouped {a : List Int} (ha : isA a) : colS ⟨(groupedS a).toArray⟩ = some a := by
  have hG := fb_groups ha
  have hlt := groups_lt ha
  have hlen := groups_len a
  have hle := runAt_le (groups a) 8 (by omega)
  have hz := run_zero (groups a) 8
  have h2 := runAt_two (groups a) 8
  unfold groupedS
  simp only
  generalize groups a = G at *
  generalize runAt G 8 = r at *
  obtain ⟨lo, hi⟩ := r
  simp only at *
  split
  · have hcut : Lib.cut (⟨(joinS G).toArray⟩ : ByteArray).data.toList gapB.data.toList = (joinS G, [], false) := by
      show Lib.cut (joinS G).toArray.toList [58, 58] = _
      rw [List.toList_toArray]; exact cut_sep (joinS_sep G)
    rw [col_yes hcut (grps_join hlt) (show grpsS ⟨([] : List UInt8).toArray⟩ = some [] from rfl), if_neg]
    · unfold fillA
      rw [hG, ha.1]; simp
    · rintro (⟨-, h⟩ | ⟨h, -⟩)
      · rw [fb_len, hlen] at h; exact h rfl
      · cases h
  · rename_i hne
    have hcut : Lib.cut (⟨(joinS (G.take lo) ++ [58, 58] ++ joinS (G.drop hi)).toArray⟩ : ByteArray).data.toList gapB.data.toList = (joinS (G.take lo), joinS (G.drop hi), true) := by
      show Lib.cut (joinS (G.take lo) ++ [58, 58] ++ joinS (G.drop hi)).toArray.toList [58, 58] = _
      rw [List.toList_toArray]; exact cut_gap (joinS_sep _) _
    have l1 : (fb (G.take lo)).length = 2 * lo := by rw [fb_len, List.length_take]; omega
    have l2 : (fb (G.drop hi)).length = 2 * (8 - hi) := by rw [fb_len, List.length_drop, hlen]
    rw [col_yes hcut (grps_join (fun u hu => hlt u (List.mem_of_mem_take hu))) (grps_join (fun u hu => hlt u (List.mem_of_mem_drop hu))), if_neg]
    · unfold fillA
      have hm := mid_zeros hle.1 hle.2 hz
      rw [l1, l2, show 16 - 2 * lo - 2 * (8 - hi) = 2 * (hi - lo) by omega, ← fb_zeros, ← fb_app, ← fb_app, ← hm, hG]
    · rintro (⟨h, -⟩ | ⟨-, h⟩)
      · cases h
      · omega
theorem quad_grouped (a : List Int) : quadS ⟨(groupedS a).toArray⟩ = none := by
  have hp : pieces ⟨(groupedS a).toArray⟩ dotB = [⟨(groupedS a).toArray⟩] := by
    show pieces _ ⟨#[46]⟩ = _
    rw [pieces_eq]
    unfold cutB
    simp only [List.toList_toArray]
    rw [cutL_miss (fun c hc => (grouped_bytes a c hc).1)]; rfl
  unfold quadS quadL
  rw [hp]
  exact if_neg (fun h => by simp at h)
/-- The law of what is printed. -/
theorem parse_print {a : List Int} (ha : isA a) : parseS ⟨(printS a).toArray⟩ = some a := by
  by_cases h : fam a = 4
  · have e : printS a = dottedS a := if_pos h
    rw [e]; unfold parseS; rw [quad_dotted ha h]
  · have e : printS a = groupedS a := if_neg h
    rw [e]; unfold parseS; rw [quad_grouped]; exact col_grouped ha
/-! ### prefixes -/
theorem indexByte_at {c : UInt8} : ∀ {p : List UInt8}, (∀ x ∈ p, x ≠ c) → ∀ r, Lib.indexByte (p ++ c :: r) c = p.length
  | [], _, r => by simp [Lib.indexByte]
  | x :: p, h, r => by
    have ih := indexByte_at (p := p) (fun y hy => h y (by simp [hy])) r
    have hx : (x == c) = false := by rw [beq_eq_false_iff_ne]; exact h x (by simp)
    rw [List.cons_append, Lib.indexByte, ih, hx]
    have : ((p.length : Int) == -1) = false := by rw [beq_eq_false_iff_ne]; omega
    simp [this]
theorem cut_byte {c : UInt8} {p : List UInt8} (h : ∀ x ∈ p, x ≠ c) (r : List UInt8) : Lib.cut (p ++ c :: r) [c] = (p, r, true) := by
  unfold Lib.cut
  rw [Lib.index_one, indexByte_at h r, if_pos (by omega)]
  have e : ((p.length : Int)).toNat = p.length := by omega
  rw [e, List.take_left, List.length_singleton, List.append_cons]
  have : (p ++ [c]).length = p.length + 1 := by simp
  rw [← this, List.drop_left]
theorem dotted_bytes {a : List Int} (ha : isA a) : ∀ c ∈ dottedS a, c ≠ 47 ∧ c ≠ 32 ∧ c ≠ 58 := by
  obtain ⟨x, y, z, t, hd, hx, hy, hz, ht⟩ := last4 ha
  intro c hc
  unfold dottedS at hc
  rw [hd, dotted_four] at hc
  have k : ∀ {x : Int}, 0 ≤ x → c ∈ Lib.itoa x → c ≠ 47 ∧ c ≠ 32 ∧ c ≠ 58 := fun h0 h => by
    have := itoa_bytes h0 c h
    exact ⟨ne_of_digit this (by decide), ne_of_digit this (by decide), ne_of_digit this (by decide)⟩
  simp only [List.mem_append, List.mem_cons] at hc
  rcases hc with h | rfl | h | rfl | h | rfl | h
  · exact k hx.1 h
  · decide
  · exact k hy.1 h
  · decide
  · exact k hz.1 h
  · decide
  · exact k ht.1 h
theorem pfam4 {p : Pf} (h : pfam p = 4) : 96 ≤ p.n ∧ fam p.a = 4 := by
  unfold pfam at h
  split at h
  · omega
  · exact ⟨by omega, h⟩
theorem chk_rng {p : Pf} (h : chk p = true) : 0 ≤ p.n ∧ p.n ≤ 128 := ⟨((chk_iff p).1 h).1, ((chk_iff p).1 h).2.1⟩
theorem pfx_yes {p : Pf} (h : chk p = true) : pfxS p = if pfam p = 4 then dottedS p.a ++ 47 :: Lib.itoa (p.n - 96) else groupedS p.a ++ 47 :: Lib.itoa p.n := by unfold pfxS; rw [if_pos h]
theorem pfx_no {p : Pf} (h : chk p = false) : pfxS p = [] := by unfold pfxS; rw [h]; rfl
theorem back_pfx {p : Pf} (ha : isA p.a) (h : chk p = true) : parsePS ⟨(pfxS p).toArray⟩ = (p, 0) := by
  obtain ⟨h0, h1⟩ := chk_rng h
  rw [pfx_yes h]
  split
  · rename_i h4
    obtain ⟨h96, hf⟩ := pfam4 h4
    have hcut : Lib.cut (⟨(dottedS p.a ++ 47 :: Lib.itoa (p.n - 96)).toArray⟩ : ByteArray).data.toList slashB.data.toList = (dottedS p.a, Lib.itoa (p.n - 96), true) := by
      show Lib.cut (dottedS p.a ++ 47 :: Lib.itoa (p.n - 96)).toArray.toList [47] = _
      rw [List.toList_toArray]; exact cut_byte (fun c hc => (dotted_bytes ha c hc).1) _
    rw [raw_q hcut (decS_itoa (by omega) (by omega)) (quad_dotted ha hf), show 96 + (p.n - 96) = p.n by omega]
    exact if_pos h
  · have hcut : Lib.cut (⟨(groupedS p.a ++ 47 :: Lib.itoa p.n).toArray⟩ : ByteArray).data.toList slashB.data.toList = (groupedS p.a, Lib.itoa p.n, true) := by
      show Lib.cut (groupedS p.a ++ 47 :: Lib.itoa p.n).toArray.toList [47] = _
      rw [List.toList_toArray]; exact cut_byte (fun c hc => (grouped_bytes p.a c hc).2.1) _
    rw [raw_c hcut (decS_itoa (by omega) (by omega)) (quad_grouped p.a) (col_grouped ha)]
    exact if_pos h
theorem pfx_nospace {p : Pf} (ha : isA p.a) : ∀ c ∈ pfxS p, c ≠ 32 := by
  intro c hc
  cases h : chk p with
  | false => rw [pfx_no h] at hc; cases hc
  | true =>
    obtain ⟨h0, h1⟩ := chk_rng h
    rw [pfx_yes h] at hc
    split at hc
    · rename_i h4
      obtain ⟨h96, hf⟩ := pfam4 h4
      rcases List.mem_append.1 hc with hc | hc
      · exact (dotted_bytes ha c hc).2.1
      · rcases List.mem_cons.1 hc with rfl | hc
        · decide
        · exact ne_of_digit (itoa_bytes (by omega) c hc) (by decide)
    · rcases List.mem_append.1 hc with hc | hc
      · exact (grouped_bytes p.a c hc).2.2
      · rcases List.mem_cons.1 hc with rfl | hc
        · decide
        · exact ne_of_digit (itoa_bytes h0 c hc) (by decide)
end Go.Proofs.YtnljjlaececnkaaGreatDoor
