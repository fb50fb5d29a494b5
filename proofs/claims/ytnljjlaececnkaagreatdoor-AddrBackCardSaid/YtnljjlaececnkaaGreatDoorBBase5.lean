/-
  Merged texts (CA, CC, CD, CM, CO, DA), part 5 of 6. Conditions: each part's own, told at its head.
-/
import Derived.Test.YtnljjlaececnkaaGreatDoorBBase1
import Derived.Test.YtnljjlaececnkaaGreatDoorBBase2
import Derived.Test.YtnljjlaececnkaaGreatDoorBBase3
import Derived.Test.YtnljjlaececnkaaGreatDoorBBase4
/-
  The document's numbers. Condition: a number has at most eighteen digits.
-/
namespace Go.Proofs.YtnljjlaececnkaaGreatDoor
open Go.RowKit
set_option linter.unusedVariables false
set_option linter.unusedSimpArgs false
theorem decFrom_stop {l : List UInt8} {k : Nat} {c : UInt8} (hc : l[k]? = some c) (hn : ¬ (48 ≤ c.toNat ∧ c.toNat ≤ 57)) : Lib.decFrom 0 l = none := by
  cases hd : Lib.decFrom 0 l with
  | none => rfl
  | some n =>
    obtain ⟨d, hd2⟩ := Lib.digit_of_decFrom l 0 n hd k c hc
    unfold Lib.digitVal at hd2
    rw [if_neg hn] at hd2
    cases hd2
theorem decFrom_bd {l : List UInt8} {k m : Nat} (h : Lib.decFrom 0 (l.take k) = some m) (hk : k ≤ 17) : m < 100000000000000000 := Lib.decFrom_take_lt h hk
/-- What Decimal answers. -/
def DecF (s : ByteArray) (most : Int) : Value := .tuple #[.int .i64 ((decF s.data.toList most).getD 0), .bool (decF s.data.toList most).isSome]
theorem get_byte (s : ByteArray) (k : Nat) (h : k < s.size) : s.data.toList[k]? = some s[k] := by
  rw [List.getElem?_eq_getElem (by simpa using h)]; rfl
theorem len_data (s : ByteArray) : s.data.toList.length = s.size := Array.length_toList
theorem DecF_no {s : ByteArray} {most : Int} (h : decF s.data.toList most = none) : DecF s most = .tuple #[.int .i64 0, .bool false] := by unfold DecF; rw [h]; rfl
theorem DecF_yes {s : ByteArray} {most n : Int} (h : decF s.data.toList most = some n) : DecF s most = .tuple #[.int .i64 n, .bool true] := by unfold DecF; rw [h]; rfl
theorem dec118_empty {w : World} (most : Int) : Calls Tryz.prog 118 #[.string ⟨#[]⟩, .int .i64 most] w fun e w' => e = .returned (DecF ⟨#[]⟩ most) ∧ w' = w := by
  rw [DecF_no (by unfold decF; exact if_pos (.inl rfl))]
  go_enter Tryz.func118, Tryz.ntmps118
  go_wp2
  go_ret2
  exact ⟨rfl, rfl⟩
theorem emp_false {s : ByteArray} (h : s.size ≠ 0) : s.toList.isEmpty = false := by
  rw [← decide_eq_emptyBytes]
  exact decide_eq_false (fun e => h (by rw [e]; rfl))
theorem dec118_long {w : World} {s : ByteArray} {most : Int} (h0 : s.size ≠ 0) (h : most < s.size) : Calls Tryz.prog 118 #[.string s, .int .i64 most] w fun e w' => e = .returned (DecF s most) ∧ w' = w := by
  have hr : DecF s most = .tuple #[.int .i64 0, .bool false] := DecF_no (by unfold decF; exact if_pos (.inr (.inl (by rw [len_data]; exact h))))
  have he := emp_false h0
  replace hr := Lib.hid hr
  clear h0
  go_enter Tryz.func118, Tryz.ntmps118
  go_wp2
  go_ret2
  exact ⟨by rw [hr.out]; rfl, rfl⟩
set_option maxHeartbeats 1600000 in
theorem dec118_zero {w : World} {s : ByteArray} {most : Int} (h1 : 1 < s.size) (h : (s.size : Int) ≤ most) (hz : s[0].toNat = 48) : Calls Tryz.prog 118 #[.string s, .int .i64 most] w fun e w' => e = .returned (DecF s most) ∧ w' = w := by
  have hr : DecF s most = .tuple #[.int .i64 0, .bool false] := DecF_no (by
    unfold decF
    refine if_pos (.inr (.inr ⟨by rw [len_data]; exact h1, ?_⟩))
    have := get_byte s 0 (by omega)
    rw [List.head?_eq_getElem?, this]
    congr 1
    exact UInt8.toNat_inj.1 hz)
  have he := emp_false (s := s) (by omega)
  replace hr := Lib.hid hr
  have hz2 : ((s[0].toNat : Int) == 48) = true := by rw [hz]; rfl
  clear hz
  go_enter Tryz.func118, Tryz.ntmps118
  go_wp2
  go_ret2
  exact ⟨by rw [hr.out]; rfl, rfl⟩
set_option maxRecDepth 100000 in
set_option maxHeartbeats 1600000 in
theorem dec118_loop {w : World} {s : ByteArray} {most : Int} (h0 : s.size ≠ 0) (hm : most ≤ 18) (h : (s.size : Int) ≤ most) (hz : ¬ (1 < s.size ∧ s[0].toNat = 48)) : Calls Tryz.prog 118 #[.string s, .int .i64 most] w fun e w' => e = .returned (DecF s most) ∧ w' = w := by
  have hF : decF s.data.toList most = (Lib.decFrom 0 s.data.toList).map fun (n : Nat) => (n : Int) := by
    unfold decF
    refine if_neg ?_
    rw [len_data]
    rintro (h1 | h1 | ⟨h1, h2⟩)
    · have := len_data s; rw [h1] at this; simp at this; omega
    · omega
    · rw [List.head?_eq_getElem?, get_byte s 0 (by omega)] at h2
      exact hz ⟨h1, by rw [Option.some.inj h2]; rfl⟩
  have he := emp_false h0
  have hfin : Hid ((∀ m : Nat, Lib.decFrom 0 s.data.toList = some m → DecF s most = .tuple #[.int .i64 m, .bool true]) ∧ (Lib.decFrom 0 s.data.toList = none → DecF s most = .tuple #[.int .i64 0, .bool false])) :=
    Lib.hid ⟨fun m hm => DecF_yes (by rw [hF, hm]; rfl), fun hn => DecF_no (by rw [hF, hn]; rfl)⟩
  clear hF
  have head : Calls Tryz.prog 118 #[.string s, .int .i64 most] w fun e w' => e = .returned (DecF s most) ∧ w' = w := by
    by_cases h1 : 1 < s.size
    all_goals
      first
        | (have hz2 : ((s[0].toNat : Int) == 48) = false := by
            rw [beq_eq_false_iff_ne]; intro e; exact hz ⟨h1, by omega⟩)
        | skip
      clear hz
      go_enter Tryz.func118, Tryz.ntmps118
      go_wp2
      go_loop [6, 7] (fun x6 x7 => ∃ k m : Nat, k ≤ s.size ∧ x7 = .int .i64 k ∧ x6 = .int .i64 m ∧ Hid (Lib.decFrom 0 (s.data.toList.take k) = some m)) (fun _ x7 => s.size - (intOf x7).toNat)
      case atStart => exact ⟨0, 0, Nat.zero_le _, rfl, rfl, rfl⟩
      case round =>
        obtain ⟨k, m, hk, rfl, rfl, hd⟩ := hrel
        by_cases hlt : k < s.size
        · have hb := decFrom_bd hd.out (by omega)
          have hget := Lib.hid (get_byte s k hlt)
          by_cases hc : 48 ≤ s[k].toNat ∧ s[k].toNat ≤ 57
          · have hnx : Hid (Lib.decFrom 0 (s.data.toList.take (k + 1)) = some (m * 10 + (s[k].toNat - 48))) := Lib.hid (Lib.decFrom_take _ k 0 m s[k] _ hd.out hget.out (by unfold Lib.digitVal; rw [if_pos hc]))
            obtain ⟨c0, c1⟩ := hc
            go_wp2
            refine ⟨⟨k + 1, m * 10 + (s[k].toNat - 48), by omega, by congr 1, by congr 1; omega, hnx⟩, by simp [intOf]; omega⟩
          · have hno := hfin.out.2 (decFrom_stop hget.out hc)
            replace hno := Lib.hid hno
            have hc2 : s[k].toNat < 48 ∨ 57 < s[k].toNat := by omega
            rcases hc2 with hc2 | hc2
            · go_wp2
              go_ret2
              exact ⟨by rw [hno.out]; rfl, rfl⟩
            · go_wp2
              go_ret2
              exact ⟨by rw [hno.out]; rfl, rfl⟩
        · obtain rfl : k = s.size := by omega
          have hall := hd.out
          rw [List.take_of_length_le (by rw [len_data]; exact Nat.le_refl _)] at hall
          have hyes := Lib.hid (hfin.out.1 m hall)
          clear hall
          go_wp2
          go_ret2
          exact ⟨by rw [hyes.out]; rfl, rfl⟩
  exact head
/-- Decimal. -/
theorem dec118_any {w : World} (s : ByteArray) {most : Int} (hm : most ≤ 18) : Calls Tryz.prog 118 #[.string s, .int .i64 most] w fun e w' => e = .returned (DecF s most) ∧ w' = w := by
  by_cases h0 : s.size = 0
  · obtain rfl : s = ⟨#[]⟩ := ba_eq (by
      have := len_data s
      exact List.eq_nil_of_length_eq_zero (by omega))
    exact dec118_empty most
  · by_cases h : most < s.size
    · exact dec118_long h0 h
    · by_cases hz : 1 < s.size ∧ s[0].toNat = 48
      · exact dec118_zero hz.1 (by omega) hz.2
      · exact dec118_loop h0 hm (by omega) hz
end Go.Proofs.YtnljjlaececnkaaGreatDoor
/-
  The document's groups of base 16; a text at a byte. Condition: a text is no longer than memory has room for.
-/
namespace Go.Proofs.YtnljjlaececnkaaGreatDoor
open Go.RowKit
set_option linter.unusedVariables false
set_option linter.unusedSimpArgs false
theorem hexFrom_all : ∀ (l : List UInt8) (acc n : Nat), hexFrom acc l = some n → ∀ c ∈ l, (hexD c).isSome = true
  | [], _, _, _, c, h => by cases h
  | x :: l, acc, n, h, c, hc => by
    unfold hexFrom at h
    split at h
    · rename_i d hd
      rcases List.mem_cons.1 hc with rfl | hc
      · rw [hd]; rfl
      · exact hexFrom_all l _ n h c hc
    · cases h
theorem hexFrom_stop {l : List UInt8} {k : Nat} {c : UInt8} (hc : l[k]? = some c) (hn : hexD c = none) : hexFrom 0 l = none := by
  cases hd : hexFrom 0 l with
  | none => rfl
  | some n =>
    have := hexFrom_all l 0 n hd c (List.mem_of_getElem? hc)
    rw [hn] at this; cases this
theorem hexFrom_take {l : List UInt8} {k m d : Nat} {c : UInt8} (h : hexFrom 0 (l.take k) = some m) (hc : l[k]? = some c) (hd : hexD c = some d) : hexFrom 0 (l.take (k + 1)) = some (16 * m + d) := by
  rw [take_snoc hc, hexFrom_snoc, h]
  simp only [hd]
theorem hexD_lt {c : UInt8} {d : Nat} (h : hexD c = some d) : d < 16 := by
  unfold hexD at h
  repeat' split at h
  all_goals first
    | (cases h; omega)
    | cases h
theorem hexFrom_lt : ∀ (l : List UInt8) (acc n : Nat), hexFrom acc l = some n → n < (acc + 1) * 16 ^ l.length
  | [], acc, n, h => by cases h; simp
  | x :: l, acc, n, h => by
    unfold hexFrom at h
    split at h
    · rename_i d hd
      have h1 := hexFrom_lt l _ n h
      have h2 := hexD_lt hd
      have h3 : (16 * acc + d + 1) * 16 ^ l.length ≤ (16 * (acc + 1)) * 16 ^ l.length := Nat.mul_le_mul_right _ (by omega)
      rw [List.length_cons, Nat.pow_succ]
      have h4 : (16 * (acc + 1)) * 16 ^ l.length = (acc + 1) * (16 ^ l.length * 16) := by rw [Nat.mul_comm 16 (acc + 1), Nat.mul_assoc, Nat.mul_comm 16 (16 ^ l.length)]
      omega
    · cases h
theorem hexFrom_bd {l : List UInt8} {k m : Nat} (h : hexFrom 0 (l.take k) = some m) (hk : k ≤ 4) : m < 65536 := by
  have h1 := hexFrom_lt _ _ _ h
  have h2 : (l.take k).length ≤ 4 := by rw [List.length_take]; omega
  have h3 : 16 ^ (l.take k).length ≤ 16 ^ 4 := Nat.pow_le_pow_right (by decide) h2
  omega
/-- What hex answers. -/
def HexV (s : ByteArray) : Value := .tuple #[.int .i64 (((grpS s).getD 0 : Nat) : Int), .bool (grpS s).isSome]
theorem HexV_no {s : ByteArray} (h : grpS s = none) : HexV s = .tuple #[.int .i64 0, .bool false] := by unfold HexV; rw [h]; rfl
theorem HexV_yes {s : ByteArray} {n : Nat} (h : grpS s = some n) : HexV s = .tuple #[.int .i64 (n : Int), .bool true] := by unfold HexV; rw [h]; rfl
theorem hex207_empty {w : World} : Calls Tryz.prog 207 #[.string ⟨#[]⟩] w fun e w' => e = .returned (HexV ⟨#[]⟩) ∧ w' = w := by
  rw [HexV_no (by unfold grpS; exact if_pos (.inl rfl))]
  go_enter Tryz.func207, Tryz.ntmps207
  go_wp2
  go_ret2
  exact ⟨rfl, rfl⟩
theorem hex207_long {w : World} {s : ByteArray} (h : 4 < s.size) : Calls Tryz.prog 207 #[.string s] w fun e w' => e = .returned (HexV s) ∧ w' = w := by
  have hr : HexV s = .tuple #[.int .i64 0, .bool false] := HexV_no (by unfold grpS; exact if_pos (.inr h))
  have he := emp_false (s := s) (by omega)
  replace hr := Lib.hid hr
  go_enter Tryz.func207, Tryz.ntmps207
  go_wp2
  go_ret2
  exact ⟨by rw [hr.out]; rfl, rfl⟩
set_option maxRecDepth 100000 in
set_option maxHeartbeats 3200000 in
theorem hex207_loop {w : World} {s : ByteArray} (h0 : s.size ≠ 0) (h : s.size ≤ 4) : Calls Tryz.prog 207 #[.string s] w fun e w' => e = .returned (HexV s) ∧ w' = w := by
  have hF : grpS s = hexFrom 0 s.data.toList := by unfold grpS; exact if_neg (by omega)
  have he := emp_false h0
  have hfin : Hid ((∀ m : Nat, hexFrom 0 s.data.toList = some m → HexV s = .tuple #[.int .i64 m, .bool true]) ∧ (hexFrom 0 s.data.toList = none → HexV s = .tuple #[.int .i64 0, .bool false])) :=
    Lib.hid ⟨fun m hm => HexV_yes (by rw [hF, hm]), fun hn => HexV_no (by rw [hF, hn])⟩
  clear hF h0
  go_enter Tryz.func207, Tryz.ntmps207
  go_wp2
  go_loop [4, 5] (fun x4 x5 => ∃ k m : Nat, k ≤ s.size ∧ x5 = .int .i64 k ∧ x4 = .int .i64 m ∧ Hid (hexFrom 0 (s.data.toList.take k) = some m)) (fun _ x5 => s.size - (intOf x5).toNat)
  case atStart => exact ⟨0, 0, Nat.zero_le _, rfl, rfl, rfl⟩
  case round =>
    obtain ⟨k, m, hk, rfl, rfl, hd⟩ := hrel
    by_cases hlt : k < s.size
    · have hb := hexFrom_bd hd.out (by omega)
      have hget := Lib.hid (get_byte s k hlt)
      by_cases hc : 48 ≤ s[k].toNat ∧ s[k].toNat ≤ 57
      · have hnx : Hid (hexFrom 0 (s.data.toList.take (k + 1)) = some (16 * m + (s[k].toNat - 48))) := Lib.hid (hexFrom_take hd.out hget.out (by unfold hexD; rw [if_pos hc]))
        obtain ⟨c0, c1⟩ := hc
        go_wp2
        refine ⟨⟨k + 1, 16 * m + (s[k].toNat - 48), by omega, by congr 1, by congr 1; omega, hnx⟩, by simp [intOf]; omega⟩
      · by_cases hc2 : 97 ≤ s[k].toNat ∧ s[k].toNat ≤ 102
        · have hnx : Hid (hexFrom 0 (s.data.toList.take (k + 1)) = some (16 * m + (s[k].toNat - 87))) := Lib.hid (hexFrom_take hd.out hget.out (by unfold hexD; rw [if_neg hc, if_pos hc2]))
          clear hc
          obtain ⟨c0, c1⟩ := hc2
          go_wp2
          refine ⟨⟨k + 1, 16 * m + (s[k].toNat - 87), by omega, by congr 1, by congr 1; omega, hnx⟩, by simp [intOf]; omega⟩
        · by_cases hc3 : 65 ≤ s[k].toNat ∧ s[k].toNat ≤ 70
          · have hnx : Hid (hexFrom 0 (s.data.toList.take (k + 1)) = some (16 * m + (s[k].toNat - 55))) := Lib.hid (hexFrom_take hd.out hget.out (by unfold hexD; rw [if_neg hc, if_neg hc2, if_pos hc3]))
            clear hc hc2
            obtain ⟨c0, c1⟩ := hc3
            go_wp2
            refine ⟨⟨k + 1, 16 * m + (s[k].toNat - 55), by omega, by congr 1, by congr 1; omega, hnx⟩, by simp [intOf]; omega⟩
          · have hno := hfin.out.2 (hexFrom_stop hget.out (by unfold hexD; rw [if_neg hc, if_neg hc2, if_neg hc3]))
            replace hno := Lib.hid hno
            have hall : s[k].toNat < 48 ∨ (57 < s[k].toNat ∧ s[k].toNat < 65) ∨ (70 < s[k].toNat ∧ s[k].toNat < 97) ∨ 102 < s[k].toNat := by omega
            clear hc hc2 hc3
            rcases hall with hx | ⟨hx, hy⟩ | ⟨hx, hy⟩ | hx
            all_goals
              go_wp2
              go_ret2
              exact ⟨by rw [hno.out]; rfl, rfl⟩
    · obtain rfl : k = s.size := by omega
      have hall := hd.out
      rw [List.take_of_length_le (by rw [len_data]; exact Nat.le_refl _)] at hall
      have hyes := Lib.hid (hfin.out.1 m hall)
      clear hall
      go_wp2
      go_ret2
      exact ⟨by rw [hyes.out]; rfl, rfl⟩
/-- hex. -/
theorem hex207_any {w : World} (s : ByteArray) : Calls Tryz.prog 207 #[.string s] w fun e w' => e = .returned (HexV s) ∧ w' = w := by
  by_cases h0 : s.size = 0
  · obtain rfl : s = ⟨#[]⟩ := ba_eq (by
      have := len_data s
      exact List.eq_nil_of_length_eq_zero (by omega))
    exact hex207_empty
  · by_cases h : 4 < s.size
    · exact hex207_long h
    · exact hex207_loop h0 (by omega)
/-! ### a text at a byte -/
def strs (l : List ByteArray) : List Value := l.map Value.string
theorem strs_one (l : List ByteArray) : ∀ u ∈ strs l, u.oneCell' = true := by intro u hu; obtain ⟨x, _, rfl⟩ := List.mem_map.1 hu; rfl
/-- What stands ahead is cut; the rest is still to be cut. -/
def CutI (c : UInt8) (l : List UInt8) (i at_ : Nat) (done : List ByteArray) : Prop := at_ ≤ i ∧ done.length ≤ i ∧ cutL c l = done.map (·.data.toList) ++ glue ((l.drop at_).take (i - at_)) (cutL c (l.drop i))
theorem CutI.start (c : UInt8) (l : List UInt8) : CutI c l 0 0 [] := ⟨Nat.le_refl _, Nat.le_refl _, by simp [glue_nil (cutL_ne c l)]⟩
theorem CutI.step {c : UInt8} {l : List UInt8} {i at_ : Nat} {done : List ByteArray} (h : CutI c l i at_ done) {x : UInt8} (hx : l[i]? = some x) (hn : x ≠ c) : CutI c l (i + 1) at_ done := by
  obtain ⟨h1, h2, h3⟩ := h
  obtain ⟨hi, he⟩ := List.getElem?_eq_some_iff.1 hx
  refine ⟨by omega, by omega, ?_⟩
  rw [h3]
  congr 1
  rw [List.drop_eq_getElem_cons hi, he, cutL, if_neg hn, glue_glue _ _ (cutL_ne _ _)]
  congr 1
  have : i + 1 - at_ = (i - at_) + 1 := by omega
  rw [this, take_snoc (y := x)]
  rw [List.getElem?_drop, show at_ + (i - at_) = i by omega]; exact hx
theorem CutI.hit {c : UInt8} {l : List UInt8} {i at_ : Nat} {done : List ByteArray} (h : CutI c l i at_ done) (hx : l[i]? = some c) {t : ByteArray} (ht : t.data.toList = (l.drop at_).take (i - at_)) : CutI c l (i + 1) (i + 1) (done ++ [t]) := by
  obtain ⟨h1, h2, h3⟩ := h
  obtain ⟨hi, he⟩ := List.getElem?_eq_some_iff.1 hx
  refine ⟨by omega, by simp; omega, ?_⟩
  rw [h3, List.drop_eq_getElem_cons hi, he, cutL, if_pos rfl, List.map_append, List.append_assoc]
  congr 1
  rw [Nat.sub_self, List.take_zero, glue_nil (cutL_ne _ _)]
  simp [glue, ht]
theorem CutI.last {c : UInt8} {l : List UInt8} {at_ : Nat} {done : List ByteArray} (h : CutI c l l.length at_ done) {t : ByteArray} (ht : t.data.toList = (l.drop at_).take (l.length - at_)) : cutL c l = (done ++ [t]).map (·.data.toList) := by
  obtain ⟨h1, h2, h3⟩ := h
  rw [h3, List.drop_length, List.map_append]
  congr 1
  simp [cutL, glue, ht]
theorem cutB_of {c : UInt8} {s : ByteArray} {done : List ByteArray} (h : cutL c s.data.toList = done.map (·.data.toList)) : cutB c s = done := by
  unfold cutB
  rw [h, List.map_map]
  have : ((fun l : List UInt8 => (⟨l.toArray⟩ : ByteArray)) ∘ fun x : ByteArray => x.data.toList) = id := by
    funext x; exact ba_eq (by simp)
  rw [this, List.map_id]
set_option maxRecDepth 100000 in
set_option maxHeartbeats 1600000 in
/-- Cut. -/
theorem cut100_any {w : World} {s : ByteArray} (hs : s.size < 4294967281) (c : UInt8) : Calls Tryz.prog 100 #[.string s, .int .u8 c.toNat] w fun e w' => (∃ v, e = .returned v ∧ w'.ownsRow 0 9 1 v (cutB c s).length (strs (cutB c s)) ∧ Lo w.heap.size v) ∧ Below w.heap.size w w' := by
  go_enter Tryz.func100, Tryz.ntmps100
  go_wp2
  go_loopw [5, 6, 7] (fun x5 x6 x7 wr => ∃ (i at_ : Nat) (done : List ByteArray), x7 = .int .i64 i ∧ x6 = .int .i64 at_ ∧ wr.ownsRow 0 9 1 x5 done.length (strs done) ∧ Lo w.heap.size x5 ∧ Below w.heap.size w wr ∧ ((i ≤ s.size ∧ Hid (CutI c s.data.toList i at_ done)) ∨ (i = s.size + 1 ∧ Hid (cutB c s = done)))) (fun x5 x6 x7 wr => s.size + 1 - (intOf x7).toNat)
  case atStart => exact ⟨0, 0, [], rfl, rfl, by simpa [strs] using own_nil _ _ _, fun b h => by simp [Value.ownBlock] at h, Below.refl _ _, .inl ⟨Nat.zero_le _, CutI.start _ _⟩⟩
  case round =>
    obtain ⟨i, at_, done, rfl, rfl, ho, lo, bel, hI⟩ := hrel
    rcases hI with ⟨hi, hI⟩ | ⟨rfl, hI⟩
    · obtain ⟨ha1, ha2, -⟩ := id hI.out
      by_cases hlt : i < s.size
      · have hget := get_byte s i hlt
        by_cases hc : s[i] = c
        · rw [hc] at hget
          have hnx := Lib.hid (hI.out.hit hget (t := s.extract at_ i) (ext_list s at_ i))
          have hb : ((s[i].toNat : Int) == c.toNat) = true := by rw [hc]; exact beq_self_eq_true _
          clear hget hc
          go_wp2_with (at_builtin; refine wpList_app1 rfl (.tmp 25) (.tmp 30) 23 rfl Tryz.underlying23 Tryz.info9 rfl (by decide) (by decide) [.string (s.extract at_ i)] rfl (by intro z hz; simp at hz; subst hz; rfl) rfl ho rfl (by omega) ?_; intro v' w2 ho2 hn2 hf2)
          refine ⟨⟨i + 1, i + 1, done ++ [s.extract at_ i], by congr 1, by congr 1, by simpa [strs] using ho2, lo.next hn2 bel.size, bel.trans (hf2.belowB lo bel.size), .inl ⟨by omega, hnx⟩⟩, by simp [intOf]; omega⟩
        · have hnx := Lib.hid (hI.out.step hget hc)
          have hb : ((s[i].toNat : Int) == c.toNat) = false := by rw [beq_eq_false_iff_ne]; intro e; exact hc (UInt8.toNat_inj.1 (by omega))
          clear hget hc
          go_wp2
          refine ⟨⟨i + 1, at_, done, by congr 1, rfl, ho, lo, bel, .inl ⟨by omega, hnx⟩⟩, by simp [intOf]; omega⟩
      · obtain rfl : i = s.size := by omega
        have hl := len_data s
        have hfin : Hid (cutB c s = done ++ [s.extract at_ s.size]) := Lib.hid (cutB_of (by
          have := hI.out
          rw [← hl] at this
          exact this.last (t := s.extract at_ s.size) (by rw [ext_list, hl])))
        clear hl
        go_wp2_with (at_builtin; refine wpList_app1 rfl (.tmp 25) (.tmp 30) 23 rfl Tryz.underlying23 Tryz.info9 rfl (by decide) (by decide) [.string (s.extract at_ s.size)] rfl (by intro z hz; simp at hz; subst hz; rfl) rfl ho rfl (by omega) ?_; intro v' w2 ho2 hn2 hf2)
        refine ⟨⟨s.size + 1, s.size + 1, done ++ [s.extract at_ s.size], by congr 1, by congr 1, by simpa [strs] using ho2, lo.next hn2 bel.size, bel.trans (hf2.belowB lo bel.size), .inr ⟨rfl, hfin⟩⟩, by simp [intOf]⟩
    · have hd : decide ((s.size : Int) + 1 ≤ s.size) = false := decide_eq_false (by omega)
      obtain ⟨A, c2, rfl, hc1, hc2⟩ := own_slice ho
      go_wp2
      go_ret
      exact ⟨⟨_, rfl, by rw [hI.out]; exact ho, lo⟩, bel⟩
end Go.Proofs.YtnljjlaececnkaaGreatDoor
/-
  An address as four numbers, the program's way and the document's; its family, the document's way. Condition: an address is sixteen bytes.
-/
namespace Go.Proofs.YtnljjlaececnkaaGreatDoor
open Go.RowKit
set_option linter.unusedVariables false
set_option linter.unusedSimpArgs false
theorem itoa_call {w : World} (E : Env w) {n : Int} (h0 : -9223372036854775808 ≤ n) (h1 : n ≤ 9223372036854775807) : Calls Tryz.prog 117 #[.int .i64 n] w fun e w' => e = .returned (.string ⟨(Lib.itoa n).toArray⟩) ∧ Below w.heap.size w w' := by
  refine (Tryz.strconv_Itoa n h0 h1 w (E.go (Below.refl _ _)).1.pow).mono fun e W2 hc2 => ⟨hc2.1, ?_⟩
  obtain ⟨k, os, rfl⟩ := hc2.2
  exact Lib.below_grow _ _ (Nat.le_refl _) k os
/-- Join of a row of the call's own. -/
theorem join_call {w : World} {v : Value} {xs : List ByteArray} {sep : ByteArray} {n : Nat} (hn : xs.length = n) (ho : w.ownsRow 0 9 1 v n (strs xs)) (hx : xs.length ≤ 1000) (hlen : (Lib.join (xs.map (·.data.toList)) sep.data.toList).length ≤ 140737488355328) :
    Calls Tryz.prog 114 #[v, .string sep] w fun e w' => e = .returned (.string ⟨(Lib.join (xs.map (·.data.toList)) sep.data.toList).toArray⟩) ∧ Below w.heap.size w w' := by
  subst hn
  obtain ⟨A, c2, rfl, hc1, hc2⟩ := own_slice ho
  rcases Nat.eq_zero_or_pos xs.length with h0 | h0
  · obtain rfl : xs = [] := List.eq_nil_of_length_eq_zero h0
    exact (Tryz.strings_Join_none _ _ _ _).mono fun e w' h => ⟨h.1, by rw [h.2]; exact Below.refl _ _⟩
  · obtain ⟨k, rfl, -, hk, hcell, -, -⟩ := own_at ho h0
    exact Tryz.strings_Join k 0 c2 xs sep w (fun j x hj => by
      have := hcell j (.string x) (by simp [strs, hj])
      simpa using this) hk (by omega) (by omega) hlen
theorem ldAi {W : World} {g : Nat} {a : List Int} {i : Nat} (hi : i < 16) (h : W.heap[g]? = some (oA a)) (ha : isA a) : (loadVar 5 ⟨g, i, none⟩).run Tryz.prog W = .ok (.int .u8 (a.getD i 0)) W := by
  obtain ⟨x, hx, hx2, -, -⟩ := isA_getD ha hi
  rw [hx2]
  exact loadVar_int Tryz.underlying5 ((row_cell h).trans (by rw [List.getElem?_toArray]; exact nums_get hx))
theorem dotted_getD {a : List Int} (ha : isA a) : dottedS a = Lib.itoa (a.getD 12 0) ++ [46] ++ Lib.itoa (a.getD 13 0) ++ [46] ++ Lib.itoa (a.getD 14 0) ++ [46] ++ Lib.itoa (a.getD 15 0) := by
  obtain ⟨x, y, z, t, hd, -⟩ := last4 ha
  have g : ∀ j, a.getD (12 + j) 0 = [x, y, z, t].getD j 0 := fun j => by rw [← hd, List.getD_eq_getElem?_getD, List.getD_eq_getElem?_getD, List.getElem?_drop]
  have g0 := g 0
  have g1 := g 1
  have g2 := g 2
  have g3 := g 3
  simp at g0 g1 g2 g3
  unfold dottedS
  rw [hd, dotted_four]
  simp [List.getD_eq_getElem?_getD, g0, g1, g2, g3]
set_option maxRecDepth 100000 in
set_option maxHeartbeats 1600000 in
/-- fours. -/
theorem fours_any {w : World} {a : List Int} (ha : isA a) : Calls Tryz.prog 107 #[vA a] w fun e w' => e = .returned (.string ⟨(dottedS a).toArray⟩) ∧ Below w.heap.size w w' := by
  have hr := Lib.hid (dotted_getD ha)
  have Ha := Lib.hid ha
  obtain ⟨x, -, hx, x0, x1⟩ := isA_getD ha (j := 12) (by decide)
  obtain ⟨y, -, hy, y0, y1⟩ := isA_getD ha (j := 13) (by decide)
  obtain ⟨z, -, hz, z0, z1⟩ := isA_getD ha (j := 14) (by decide)
  obtain ⟨t, -, ht, t0, t1⟩ := isA_getD ha (j := 15) (by decide)
  rw [hx, hy, hz, ht] at hr
  have lx := itoa_len x x0 (by omega)
  have ly := itoa_len y y0 (by omega)
  have lz := itoa_len z z0 (by omega)
  have lt := itoa_len t t0 (by omega)
  have cx := fun {W : World} => digits_call (w := W) (n := x) x0 (by omega)
  have cy := fun {W : World} => digits_call (w := W) (n := y) y0 (by omega)
  have cz := fun {W : World} => digits_call (w := W) (n := z) z0 (by omega)
  have ct := fun {W : World} => digits_call (w := W) (n := t) t0 (by omega)
  have l1 : (Lib.itoa x).length + ([46] : List UInt8).length ≤ 9223372036854775807 := by simp; omega
  have l2 : (Lib.itoa x ++ [46]).length + (Lib.itoa y).length ≤ 9223372036854775807 := by simp; omega
  have l3 : (Lib.itoa x ++ [46] ++ Lib.itoa y).length + ([46] : List UInt8).length ≤ 9223372036854775807 := by simp; omega
  have l4 : (Lib.itoa x ++ [46] ++ Lib.itoa y ++ [46]).length + (Lib.itoa z).length ≤ 9223372036854775807 := by simp; omega
  have l5 : (Lib.itoa x ++ [46] ++ Lib.itoa y ++ [46] ++ Lib.itoa z).length + ([46] : List UInt8).length ≤ 9223372036854775807 := by simp; omega
  have l6 : (Lib.itoa x ++ [46] ++ Lib.itoa y ++ [46] ++ Lib.itoa z ++ [46]).length + (Lib.itoa t).length ≤ 9223372036854775807 := by simp; omega
  have wx : IntKind.i64.wrap x = x := IntWalk.i64_in _ (by omega)
  have wy : IntKind.i64.wrap y = y := IntWalk.i64_in _ (by omega)
  have wz : IntKind.i64.wrap z = z := IntWalk.i64_in _ (by omega)
  have wt : IntKind.i64.wrap t = t := IntWalk.i64_in _ (by omega)
  have B := ((Bz.start w).alloc (oA a) rfl : Bz w [(w.heap.size, oA a)] _)
  replace hx := Lib.hid hx
  replace hy := Lib.hid hy
  replace hz := Lib.hid hz
  replace ht := Lib.hid ht
  replace lx := Lib.hid lx
  clear ha lx ly lz lt
  unfold vA
  go_enter Tryz.func107, Tryz.ntmps107
  go_wp2_with fail
  refine wp_region_C (C := Bz w [(w.heap.size, oA a)]) (by kernel_rfl) (by kernel_rfl) (B.drew) ?_
  refine wpQuiet_hide ?_
  intro lq hlq
  refine wpQuiet_step_h hlq ?_
  clear hlq lq
  intro K lq hlq hK
  refine wanted_go (by rfl) ?_
  refine ⟨?_, fun W hW => ?_, ?_⟩
  rotate_left
  · skip
    go_simp
    with_reducible rfl
  refine hK _ ?_
  clear hK K
  (try simp only [Act.put, List.setIfInBounds_toArray, List.set_cons_zero, List.set_cons_succ])
  refine wpQuiet_step_h hlq ?_
  clear hlq lq
  intro K lq hlq hK
  refine wanted_go (by rfl) ?_
  refine ⟨.int .u8 x, fun W hW => ?_, ?_⟩
  · skip
    rw [← hx.out]; exact quiet_load 5 _ rfl rfl (ldAi (i := 12) (by decide) (hW.all.get 0 (x := (w.heap.size, oA a)) rfl) Ha.out)
  refine hK _ ?_
  clear hK K
  (try simp only [Act.put, List.setIfInBounds_toArray, List.set_cons_zero, List.set_cons_succ])
  refine wpQuiet_step_h hlq ?_
  clear hlq lq
  intro K lq hlq hK
  refine wanted_go (by rfl) ?_
  refine ⟨?_, fun W hW => ?_, ?_⟩
  rotate_left
  · skip
    go_simp
    with_reducible rfl
  refine hK _ ?_
  clear hK K
  (try simp only [Act.put, List.setIfInBounds_toArray, List.set_cons_zero, List.set_cons_succ])
  refine wpQuiet_step_h hlq ?_
  clear hlq lq
  intro K lq hlq hK
  refine wanted_go (by rfl) ?_
  refine ⟨.string ⟨(Lib.itoa x).toArray⟩, fun W hW => ?_, ?_⟩
  · go_simp
    exact (cx).mono fun e W2 hc2 => ⟨hc2.1, hW.go hc2.2⟩
  refine hK _ ?_
  clear hK K
  (try simp only [Act.put, List.setIfInBounds_toArray, List.set_cons_zero, List.set_cons_succ])
  refine wpQuiet_step_h hlq ?_
  clear hlq lq
  intro K lq hlq hK
  refine wanted_go (by rfl) ?_
  refine ⟨.string ⟨(Lib.itoa x ++ [46]).toArray⟩, fun W hW => ?_, ?_⟩
  · skip
    exact quiet_add rfl rfl rfl (str_add W _ _ l1)
  refine hK _ ?_
  clear hK K
  (try simp only [Act.put, List.setIfInBounds_toArray, List.set_cons_zero, List.set_cons_succ])
  refine wpQuiet_step_h hlq ?_
  clear hlq lq
  intro K lq hlq hK
  refine wanted_go (by rfl) ?_
  refine ⟨?_, fun W hW => ?_, ?_⟩
  rotate_left
  · skip
    go_simp
    with_reducible rfl
  refine hK _ ?_
  clear hK K
  (try simp only [Act.put, List.setIfInBounds_toArray, List.set_cons_zero, List.set_cons_succ])
  refine wpQuiet_step_h hlq ?_
  clear hlq lq
  intro K lq hlq hK
  refine wanted_go (by rfl) ?_
  refine ⟨.int .u8 y, fun W hW => ?_, ?_⟩
  · skip
    rw [← hy.out]; exact quiet_load 5 _ rfl rfl (ldAi (i := 13) (by decide) (hW.all.get 0 (x := (w.heap.size, oA a)) rfl) Ha.out)
  refine hK _ ?_
  clear hK K
  (try simp only [Act.put, List.setIfInBounds_toArray, List.set_cons_zero, List.set_cons_succ])
  refine wpQuiet_step_h hlq ?_
  clear hlq lq
  intro K lq hlq hK
  refine wanted_go (by rfl) ?_
  refine ⟨?_, fun W hW => ?_, ?_⟩
  rotate_left
  · skip
    go_simp
    with_reducible rfl
  refine hK _ ?_
  clear hK K
  (try simp only [Act.put, List.setIfInBounds_toArray, List.set_cons_zero, List.set_cons_succ])
  refine wpQuiet_step_h hlq ?_
  clear hlq lq
  intro K lq hlq hK
  refine wanted_go (by rfl) ?_
  refine ⟨.string ⟨(Lib.itoa y).toArray⟩, fun W hW => ?_, ?_⟩
  · go_simp
    exact (cy).mono fun e W2 hc2 => ⟨hc2.1, hW.go hc2.2⟩
  refine hK _ ?_
  clear hK K
  (try simp only [Act.put, List.setIfInBounds_toArray, List.set_cons_zero, List.set_cons_succ])
  refine wpQuiet_step_h hlq ?_
  clear hlq lq
  intro K lq hlq hK
  refine wanted_go (by rfl) ?_
  refine ⟨.string ⟨(Lib.itoa x ++ [46] ++ Lib.itoa y).toArray⟩, fun W hW => ?_, ?_⟩
  · skip
    exact quiet_add rfl rfl rfl (str_add W _ _ l2)
  refine hK _ ?_
  clear hK K
  (try simp only [Act.put, List.setIfInBounds_toArray, List.set_cons_zero, List.set_cons_succ])
  refine wpQuiet_step_h hlq ?_
  clear hlq lq
  intro K lq hlq hK
  refine wanted_go (by rfl) ?_
  refine ⟨.string ⟨(Lib.itoa x ++ [46] ++ Lib.itoa y ++ [46]).toArray⟩, fun W hW => ?_, ?_⟩
  · skip
    exact quiet_add rfl rfl rfl (str_add W _ _ l3)
  refine hK _ ?_
  clear hK K
  (try simp only [Act.put, List.setIfInBounds_toArray, List.set_cons_zero, List.set_cons_succ])
  refine wpQuiet_step_h hlq ?_
  clear hlq lq
  intro K lq hlq hK
  refine wanted_go (by rfl) ?_
  refine ⟨?_, fun W hW => ?_, ?_⟩
  rotate_left
  · skip
    go_simp
    with_reducible rfl
  refine hK _ ?_
  clear hK K
  (try simp only [Act.put, List.setIfInBounds_toArray, List.set_cons_zero, List.set_cons_succ])
  refine wpQuiet_step_h hlq ?_
  clear hlq lq
  intro K lq hlq hK
  refine wanted_go (by rfl) ?_
  refine ⟨.int .u8 z, fun W hW => ?_, ?_⟩
  · skip
    rw [← hz.out]; exact quiet_load 5 _ rfl rfl (ldAi (i := 14) (by decide) (hW.all.get 0 (x := (w.heap.size, oA a)) rfl) Ha.out)
  refine hK _ ?_
  clear hK K
  (try simp only [Act.put, List.setIfInBounds_toArray, List.set_cons_zero, List.set_cons_succ])
  refine wpQuiet_step_h hlq ?_
  clear hlq lq
  intro K lq hlq hK
  refine wanted_go (by rfl) ?_
  refine ⟨?_, fun W hW => ?_, ?_⟩
  rotate_left
  · skip
    go_simp
    with_reducible rfl
  refine hK _ ?_
  clear hK K
  (try simp only [Act.put, List.setIfInBounds_toArray, List.set_cons_zero, List.set_cons_succ])
  refine wpQuiet_step_h hlq ?_
  clear hlq lq
  intro K lq hlq hK
  refine wanted_go (by rfl) ?_
  refine ⟨.string ⟨(Lib.itoa z).toArray⟩, fun W hW => ?_, ?_⟩
  · go_simp
    exact (cz).mono fun e W2 hc2 => ⟨hc2.1, hW.go hc2.2⟩
  refine hK _ ?_
  clear hK K
  (try simp only [Act.put, List.setIfInBounds_toArray, List.set_cons_zero, List.set_cons_succ])
  refine wpQuiet_step_h hlq ?_
  clear hlq lq
  intro K lq hlq hK
  refine wanted_go (by rfl) ?_
  refine ⟨.string ⟨(Lib.itoa x ++ [46] ++ Lib.itoa y ++ [46] ++ Lib.itoa z).toArray⟩, fun W hW => ?_, ?_⟩
  · skip
    exact quiet_add rfl rfl rfl (str_add W _ _ l4)
  refine hK _ ?_
  clear hK K
  (try simp only [Act.put, List.setIfInBounds_toArray, List.set_cons_zero, List.set_cons_succ])
  refine wpQuiet_step_h hlq ?_
  clear hlq lq
  intro K lq hlq hK
  refine wanted_go (by rfl) ?_
  refine ⟨.string ⟨(Lib.itoa x ++ [46] ++ Lib.itoa y ++ [46] ++ Lib.itoa z ++ [46]).toArray⟩, fun W hW => ?_, ?_⟩
  · skip
    exact quiet_add rfl rfl rfl (str_add W _ _ l5)
  refine hK _ ?_
  clear hK K
  (try simp only [Act.put, List.setIfInBounds_toArray, List.set_cons_zero, List.set_cons_succ])
  refine wpQuiet_step_h hlq ?_
  clear hlq lq
  intro K lq hlq hK
  refine wanted_go (by rfl) ?_
  refine ⟨?_, fun W hW => ?_, ?_⟩
  rotate_left
  · skip
    go_simp
    with_reducible rfl
  refine hK _ ?_
  clear hK K
  (try simp only [Act.put, List.setIfInBounds_toArray, List.set_cons_zero, List.set_cons_succ])
  refine wpQuiet_step_h hlq ?_
  clear hlq lq
  intro K lq hlq hK
  refine wanted_go (by rfl) ?_
  refine ⟨.int .u8 t, fun W hW => ?_, ?_⟩
  · skip
    rw [← ht.out]; exact quiet_load 5 _ rfl rfl (ldAi (i := 15) (by decide) (hW.all.get 0 (x := (w.heap.size, oA a)) rfl) Ha.out)
  refine hK _ ?_
  clear hK K
  (try simp only [Act.put, List.setIfInBounds_toArray, List.set_cons_zero, List.set_cons_succ])
  refine wpQuiet_step_h hlq ?_
  clear hlq lq
  intro K lq hlq hK
  refine wanted_go (by rfl) ?_
  refine ⟨?_, fun W hW => ?_, ?_⟩
  rotate_left
  · skip
    go_simp
    with_reducible rfl
  refine hK _ ?_
  clear hK K
  (try simp only [Act.put, List.setIfInBounds_toArray, List.set_cons_zero, List.set_cons_succ])
  refine wpQuiet_step_h hlq ?_
  clear hlq lq
  intro K lq hlq hK
  refine wanted_go (by rfl) ?_
  refine ⟨.string ⟨(Lib.itoa t).toArray⟩, fun W hW => ?_, ?_⟩
  · go_simp
    exact (ct).mono fun e W2 hc2 => ⟨hc2.1, hW.go hc2.2⟩
  refine hK _ ?_
  clear hK K
  (try simp only [Act.put, List.setIfInBounds_toArray, List.set_cons_zero, List.set_cons_succ])
  refine wpQuiet_step_h hlq ?_
  clear hlq lq
  intro K lq hlq hK
  refine wanted_go (by rfl) ?_
  refine ⟨.string ⟨(Lib.itoa x ++ [46] ++ Lib.itoa y ++ [46] ++ Lib.itoa z ++ [46] ++ Lib.itoa t).toArray⟩, fun W hW => ?_, ?_⟩
  · skip
    exact quiet_add rfl rfl rfl (str_add W _ _ l6)
  refine hK _ ?_
  clear hK K
  (try simp only [Act.put, List.setIfInBounds_toArray, List.set_cons_zero, List.set_cons_succ])
  refine wpQuiet_step_h hlq ?_
  clear hlq lq
  intro K lq hlq hK
  refine wanted_go (by rfl) ?_
  refine ⟨?_, fun W hW => ?_, ?_⟩
  rotate_left
  · skip
    go_simp
    with_reducible rfl
  refine hK _ ?_
  clear hK K
  (try simp only [Act.put, List.setIfInBounds_toArray, List.set_cons_zero, List.set_cons_succ])
  refine wpQuiet_nil_h hlq ?_
  clear hlq lq B
  intro V1 hV2
  go_wp2_with fail
  go_ret
  exact ⟨congrArg (fun l : List UInt8 => Ending.returned (.string ⟨l.toArray⟩)) (show Lib.itoa x ++ 46 :: (Lib.itoa y ++ 46 :: (Lib.itoa z ++ 46 :: Lib.itoa t)) = dottedS a by rw [hr.out]; simp), hV2.bel⟩
theorem AllB.fr {S : Nat → Prop} {w w2 : World} (h : Fr S w w2) : ∀ {l : List (Nat × Obj)}, AllB w l → (∀ x ∈ l, ¬ S x.1) → AllB w2 l
  | [], _, _ => trivial
  | x :: l, ⟨hx, r⟩, hn => ⟨h.obj hx (hn x (by simp)), AllB.fr h r fun y hy => hn y (by simp [hy])⟩
theorem Bz.fr {S : Nat → Prop} {w W W2 : World} {l : List (Nat × Obj)} (h : Bz w l W) (hf : Fr S W W2) (hn : ∀ x ∈ l, ¬ S x.1) (hs : ∀ b, S b → w.heap.size ≤ b) : Bz w l W2 :=
  ⟨h.bel.trans (hf.belowS hs h.bel.size), AllB.fr hf h.all hn, h.ord, h.low⟩
/-- The numbers of an address that are texts by now. -/
def dots (a : List Int) (j : Nat) : List ByteArray := ((a.drop 12).take j).map fun x => ⟨(Lib.itoa x).toArray⟩
theorem slice42_low (W : World) (g : Nat) : (Instr.sliceAt 42 (.pointer (some ⟨g, 0, none⟩)) (some (.int .i64 12)) none none).run Tryz.prog W = .ok (.slice (some ⟨g, 12, none⟩) 4 4) W := by
  have a16 : Tryz.prog.arrayLen 42 = 16 := by kernel_rfl
  have e5 : Tryz.prog.elem 42 = 5 := by kernel_rfl
  have hs : (sizeOf 5).run Tryz.prog W = .ok 1 W := by kernel_rfl
  have h := run_sliceAt_array_l (P := Tryz.prog) W 42 ⟨g, 0, none⟩ (by kernel_rfl) .i64 12 (by decide) (by rw [a16]; decide)
  rw [h, e5, hs, a16]
  simp [Result.andThen, slicedAt, Addr.add]
set_option maxRecDepth 100000 in
set_option maxHeartbeats 1600000 in
/-- dotted. -/
theorem dotted_any {w : World} (E : Env w) {a : List Int} (ha : isA a) : Calls Tryz.prog 105 #[vA a] w fun e w' => e = .returned (.string ⟨(dottedS a).toArray⟩) ∧ Below w.heap.size w w' := by
  have B := ((Bz.start w).alloc (oA a) rfl : Bz w [(w.heap.size, oA a)] _)
  have Ha := Lib.hid ha
  have hsl := fun W => slice42_low W w.heap.size
  clear ha
  unfold vA
  go_enter Tryz.func105, Tryz.ntmps105
  go_wp2
  go_loopw [3, 8] (fun x3 x8 wr => ∃ j : Nat, x8 = .int .i64 j ∧ j ≤ 4 ∧ wr.ownsRow 0 9 1 x3 j (strs (dots a j)) ∧ Lo (w.heap.size + 1) x3 ∧ Bz w [(w.heap.size, oA a)] wr) (fun x3 x8 wr => 4 - (intOf x8).toNat)
  case atStart => exact ⟨0, rfl, by omega, by simpa [strs, dots] using own_nil _ _ _, fun b h => by simp [Value.ownBlock] at h, B⟩
  case round =>
    obtain ⟨j, rfl, hj, ho, lo, bx⟩ := hrel
    have hsz : w.heap.size + 1 ≤ wr.heap.size := lt_of_obj (bx.all.get 0 (x := (w.heap.size, oA a)) rfl)
    by_cases hlt : j < 4
    · obtain ⟨x, hx, -, x0, x1⟩ := isA_getD Ha.out (j := 12 + j) (by omega)
      have c1 : wr.cell? ⟨w.heap.size, 12 + j, none⟩ = some (.int .u8 x) := (row_cell (bx.all.get 0 (x := (w.heap.size, oA a)) rfl)).trans (by rw [List.getElem?_toArray]; exact nums_get hx)
      have ht : Hid (strs (dots a (j + 1)) = strs (dots a j) ++ [.string ⟨(Lib.itoa x).toArray⟩]) := Lib.hid (by
        unfold strs dots
        rw [take_snoc (y := x) (by rw [List.getElem?_drop]; exact hx)]; simp)
      replace hx := Lib.hid hx
      go_wp2_with (first | (go_at_call 117; refine (itoa_call (bx.env E) (by omega) (by omega)).mono ?_; rintro e w1 ⟨rfl, bel1⟩) | (at_builtin; refine wpList_app1 rfl (.tmp 12) (.tmp 16) 23 rfl Tryz.underlying23 Tryz.info9 rfl (by decide) (by decide) [.string ⟨(Lib.itoa x).toArray⟩] rfl (by intro z hz; simp at hz; subst hz; rfl) rfl (own_below ho bel1 (own_lt ho)) rfl (by omega) ?_; intro v' w2 ho2 hn2 hf2))
      have bx1 := bx.go bel1
      refine ⟨⟨j + 1, by congr 1, by omega, by rw [ht.out]; exact ho2, lo.next hn2 (Nat.le_trans hsz bel1.size), bx1.fr hf2 (fun x hx hb => by
        simp at hx; subst hx
        have h2 : w.heap.size + 1 ≤ w.heap.size := lo _ hb
        omega) (fun b hb => by have := lo _ hb; omega)⟩, by simp [intOf]; omega⟩
    · obtain rfl : j = 4 := by omega
      have hd : (dots a 4).length = 4 := by
        obtain ⟨x, y, z, t, h, -⟩ := last4 Ha.out
        unfold dots; rw [h]; rfl
      have hj2 : Lib.join ((dots a 4).map (·.data.toList)) [46] = dottedS a := by
        obtain ⟨x, y, z, t, h, -⟩ := last4 Ha.out
        unfold dots dottedS; rw [h]; rfl
      have hlen : (dottedS a).length ≤ 1000 := by
        rw [dotted_getD Ha.out]
        obtain ⟨x, -, hx, x0, x1⟩ := isA_getD Ha.out (j := 12) (by decide)
        obtain ⟨y, -, hy, y0, y1⟩ := isA_getD Ha.out (j := 13) (by decide)
        obtain ⟨z, -, hz, z0, z1⟩ := isA_getD Ha.out (j := 14) (by decide)
        obtain ⟨t, -, ht, t0, t1⟩ := isA_getD Ha.out (j := 15) (by decide)
        rw [hx, hy, hz, ht]
        have lx := itoa_len x x0 (by omega)
        have ly := itoa_len y y0 (by omega)
        have lz := itoa_len z z0 (by omega)
        have lt := itoa_len t t0 (by omega)
        simp; omega
      have hjc := join_call (xs := dots a 4) (sep := ⟨#[46]⟩) hd ho (by omega) (by show (Lib.join _ [46]).length ≤ _; rw [hj2]; omega)
      rw [show (⟨#[46]⟩ : ByteArray).data.toList = [46] from rfl, hj2] at hjc
      clear hd hj2 hlen
      go_wp2_with (go_at_call 114; refine hjc.mono ?_; rintro e w1 ⟨rfl, bel1⟩)
      go_ret
      exact ⟨rfl, (bx.go bel1).bel⟩
set_option maxRecDepth 100000 in
set_option maxHeartbeats 800000 in
theorem print4_any {w : World} (E : Env w) {a : List Int} (ha : isA a) (h4 : fam a = 4) : Calls Tryz.prog 34 #[vA a] w fun e w' => e = .returned (.string ⟨(dottedS a).toArray⟩) ∧ Below w.heap.size w w' := by
  have B := ((Bz.start w).alloc (oA a) rfl : Bz w [(w.heap.size, oA a)] _)
  have Ha := Lib.hid ha
  have hf : ∀ {W : World}, Calls Tryz.prog 32 #[vA a] W fun e w' => e = .returned (.int .i64 4) ∧ Below W.heap.size W w' := (fam_any ha).mono fun e w' h => ⟨by rw [h.1, h4], h.2⟩
  clear ha h4
  unfold vA
  go_enter Tryz.func34, Tryz.ntmps34
  go_wp2_with (refine wpList_quiet (C := Bz w [(w.heap.size, oA a)]) 3 (by rfl) B ?_)
  refine wpQuiet_hide ?_
  intro lq hlq
  refine wpQuiet_step_h hlq ?_
  clear hlq lq
  intro K lq hlq hK
  refine wanted_go (by rfl) ?_
  refine ⟨vA a, fun W hW => ?_, ?_⟩
  · skip
    exact quiet_load 42 _ rfl rfl (ldA (hW.all.get 0 (x := (w.heap.size, oA a)) rfl) Ha.out)
  refine hK _ ?_
  clear hK K
  (try simp only [Act.put, List.setIfInBounds_toArray, List.set_cons_zero, List.set_cons_succ])
  refine wpQuiet_step_h hlq ?_
  clear hlq lq
  intro K lq hlq hK
  refine wanted_go (by rfl) ?_
  refine ⟨.int .i64 4, fun W hW => ?_, ?_⟩
  · go_simp
    exact (hf).mono fun e W2 hc2 => ⟨hc2.1, hW.go hc2.2⟩
  refine hK _ ?_
  clear hK K
  (try simp only [Act.put, List.setIfInBounds_toArray, List.set_cons_zero, List.set_cons_succ])
  refine wpQuiet_step_h hlq ?_
  clear hlq lq
  intro K lq hlq hK
  refine wanted_go (by rfl) ?_
  refine ⟨?_, fun W hW => ?_, ?_⟩
  rotate_left
  · skip
    go_simp
    with_reducible rfl
  refine hK _ ?_
  clear hK K
  (try simp only [Act.put, List.setIfInBounds_toArray, List.set_cons_zero, List.set_cons_succ])
  refine wpQuiet_nil_h hlq ?_
  clear hlq lq B
  intro V1 hV2
  go_wp2_with (refine wpList_quiet (C := Bz w [(w.heap.size, oA a)]) 3 (by rfl) hV2 ?_)
  refine wpQuiet_hide ?_
  intro lq hlq
  refine wpQuiet_step_h hlq ?_
  clear hlq lq
  intro K lq hlq hK
  refine wanted_go (by rfl) ?_
  refine ⟨vA a, fun W hW => ?_, ?_⟩
  · skip
    exact quiet_load 42 _ rfl rfl (ldA (hW.all.get 0 (x := (w.heap.size, oA a)) rfl) Ha.out)
  refine hK _ ?_
  clear hK K
  (try simp only [Act.put, List.setIfInBounds_toArray, List.set_cons_zero, List.set_cons_succ])
  refine wpQuiet_step_h hlq ?_
  clear hlq lq
  intro K lq hlq hK
  refine wanted_go (by rfl) ?_
  refine ⟨.string ⟨(dottedS a).toArray⟩, fun W hW => ?_, ?_⟩
  · go_simp
    have E' := hW.env E
    exact (dotted_any E' Ha.out).mono fun e W2 hc2 => ⟨hc2.1, hW.go hc2.2⟩
  refine hK _ ?_
  clear hK K
  (try simp only [Act.put, List.setIfInBounds_toArray, List.set_cons_zero, List.set_cons_succ])
  refine wpQuiet_step_h hlq ?_
  clear hlq lq
  intro K lq hlq hK
  refine wanted_go (by rfl) ?_
  refine ⟨?_, fun W hW => ?_, ?_⟩
  rotate_left
  · skip
    go_simp
    with_reducible rfl
  refine hK _ ?_
  clear hK K
  (try simp only [Act.put, List.setIfInBounds_toArray, List.set_cons_zero, List.set_cons_succ])
  refine wpQuiet_nil_h hlq ?_
  clear hlq lq hV2
  intro V3 hV4
  go_wp2_with fail
  go_ret
  exact ⟨rfl, hV4.bel⟩
/-- Print. -/
theorem print_any {w : World} (E : Env w) {a : List Int} (ha : isA a) : Calls Tryz.prog 34 #[vA a] w fun e w' => e = .returned (.string ⟨(printS a).toArray⟩) ∧ Below w.heap.size w w' := by
  unfold printS
  rcases fam_or a with h | h
  · rw [if_pos h]; exact print4_any E ha h
  · rw [if_neg (by omega)]; exact print6_any E ha h
/-- How far an address begins as an IPv4 one does. -/
theorem mapd_at {i : Nat} (h : i < 12) : mapd[i]? = some (if i < 10 then 0 else 255) := by
  match i, h with
  | 0, _ | 1, _ | 2, _ | 3, _ | 4, _ | 5, _ | 6, _ | 7, _ | 8, _ | 9, _ | 10, _ | 11, _ => rfl
theorem fam_no {a : List Int} {i : Nat} {x : Int} (hi : i < 12) (hx : a[i]? = some x) (h : x ≠ if i < 10 then 0 else 255) : fam a = 6 := by
  unfold fam
  refine if_neg fun e => h ?_
  have h1 : (a.take 12)[i]? = some x := by rw [List.getElem?_take_of_lt hi]; exact hx
  rw [e, mapd_at hi] at h1
  exact (Option.some.inj h1).symm
theorem fam_yes {a : List Int} (ha : isA a) (h : ∀ i x, i < 12 → a[i]? = some x → x = if i < 10 then 0 else 255) : fam a = 4 := by
  unfold fam
  refine if_pos (List.ext_getElem? fun i => ?_)
  by_cases hi : i < 12
  · obtain ⟨x, hx⟩ := get_some (l := a) (j := i) (by rw [ha.1]; omega)
    rw [List.getElem?_take_of_lt hi, hx, mapd_at hi, h i x hi hx]
  · rw [List.getElem?_eq_none (by simp; omega), List.getElem?_eq_none (by simp [mapd]; omega)]
set_option maxRecDepth 100000 in
set_option maxHeartbeats 1600000 in
/-- Family, the document's. -/
theorem rfam_any {w : World} {a : List Int} (ha : isA a) : Calls Tryz.prog 33 #[vA a] w fun e w' => e = .returned (.int .i64 (fam a)) ∧ Below w.heap.size w w' := by
  have bel : Below w.heap.size w (w.alloc (oA a)) := (Below.refl _ _).alloc (Nat.le_refl _) _
  have hb := Lib.hid (box1 w (oA a))
  have Ha := Lib.hid ha
  clear ha
  unfold vA
  go_enter Tryz.func33, Tryz.ntmps33
  go_wp2
  go_loop [3] (fun x3 => ∃ i : Nat, i ≤ 12 ∧ x3 = .int .i64 i ∧ Hid (∀ j x, j < i → a[j]? = some x → x = if j < 10 then 0 else 255)) (fun x3 => 12 - (intOf x3).toNat)
  case atStart => exact ⟨0, by omega, rfl, Lib.hid fun j x h => by omega⟩
  case round =>
    obtain ⟨i, hi, rfl, hall⟩ := hrel
    by_cases hlt : i < 12
    · obtain ⟨x, hx, -, x0, x1⟩ := isA_getD Ha.out (j := i) (by omega)
      have c1 : (w.alloc (oA a)).cell? ⟨w.heap.size, i, none⟩ = some (.int .u8 x) := (row_cell hb.out).trans (by rw [List.getElem?_toArray]; exact nums_get hx)
      unfold oA at c1
      by_cases h : x = if i < 10 then 0 else 255
      · have hnx : Hid (∀ j x, j < i + 1 → a[j]? = some x → x = if j < 10 then 0 else 255) := Lib.hid fun j y hj hy => by
          by_cases hji : j = i
          · subst hji; rw [hx] at hy; cases hy; exact h
          · exact hall.out j y (by omega) hy
        replace hx := Lib.hid hx
        by_cases h10 : i < 10
        · rw [if_pos h10] at h
          subst h
          go_wp2
          refine ⟨⟨i + 1, by omega, by congr 1, hnx⟩, by simp [intOf]; omega⟩
        · rw [if_neg h10] at h
          subst h
          go_wp2
          refine ⟨⟨i + 1, by omega, by congr 1, hnx⟩, by simp [intOf]; omega⟩
      · have hf := Lib.hid (fam_no hlt hx h)
        replace hx := Lib.hid hx
        by_cases h10 : i < 10
        · rw [if_pos h10] at h
          have hb2 : (x == 0) = false := by simpa using h
          replace h := Lib.hid h
          go_wp2
          go_ret
          exact ⟨by rw [hf.out]; rfl, bel⟩
        · rw [if_neg h10] at h
          have hb2 : (x == 255) = false := by simpa using h
          replace h := Lib.hid h
          go_wp2
          go_ret
          exact ⟨by rw [hf.out]; rfl, bel⟩
    · obtain rfl : i = 12 := by omega
      have hf := Lib.hid (fam_yes Ha.out fun j x h hx => hall.out j x h hx)
      go_wp2
      go_ret
      exact ⟨by rw [hf.out]; rfl, bel⟩
end Go.Proofs.YtnljjlaececnkaaGreatDoor
/-
  Plain laws of an address in groups, as the document lays it. No condition.
-/
namespace Go.Proofs.YtnljjlaececnkaaGreatDoor
open Go.RowKit
set_option linter.unusedVariables false
set_option linter.unusedSimpArgs false
/-- A text, and a colon if it wants one. -/
def sepG (out : List UInt8) : List UInt8 := if out = [] ∨ out.getLast? = some 58 then out else out ++ [58]
theorem joinS_snoc {l : List Nat} (h : l ≠ []) (u : Nat) : joinS (l ++ [u]) = joinS l ++ 58 :: hexT u := by
  have key : ∀ l : List Nat, Lib.joinTail [58] ((l ++ [u]).map hexT) = Lib.joinTail [58] (l.map hexT) ++ 58 :: hexT u := by
    intro l
    induction l with
    | nil => simp [Lib.joinTail]
    | cons v l ih => rw [List.cons_append, tail_cons, tail_cons, ih]; simp
  cases l with
  | nil => exact absurd rfl h
  | cons v l => rw [List.cons_append, joinS_cons, joinS_cons, key, List.append_assoc]
theorem getLast_app {x y : List UInt8} (h : y ≠ []) : (x ++ y).getLast? = y.getLast? := by
  rw [List.getLast?_append]
  cases hy : y.getLast? with
  | none => rw [List.getLast?_eq_none_iff] at hy; exact absurd hy h
  | some c => rfl
theorem hexT_last (u : Nat) : (hexT u).getLast? ≠ some 58 := fun h => (hexT_plain u 58 (List.mem_of_getLast? h)).1 rfl
theorem joinS_last {l : List Nat} (h : l ≠ []) : joinS l ≠ [] ∧ (joinS l).getLast? ≠ some 58 := by
  rcases List.eq_nil_or_concat l with rfl | ⟨m, u, rfl⟩
  · exact absurd rfl h
  · rw [List.concat_eq_append]
    cases m with
    | nil => rw [List.nil_append, joinS_cons]; simp [Lib.joinTail]; exact ⟨hexT_ne u, hexT_last u⟩
    | cons v m =>
      rw [joinS_snoc (by simp)]
      refine ⟨by simp, ?_⟩
      rw [getLast_app (by simp), show (58 :: hexT u : List UInt8) = [58] ++ hexT u from rfl, getLast_app (hexT_ne u)]
      exact hexT_last u
theorem sep_join {l : List Nat} {u : Nat} : sepG (joinS l) ++ hexT u = joinS (l ++ [u]) := by
  cases l with
  | nil => rw [joinS_nil]; unfold sepG; rw [if_pos (.inl rfl)]; simp [joinS_cons, Lib.joinTail]
  | cons v l =>
    obtain ⟨h1, h2⟩ := joinS_last (l := v :: l) (by simp)
    unfold sepG
    rw [if_neg (by rintro (h | h) <;> contradiction), joinS_snoc (by simp)]; simp
theorem sep_gap {x : List UInt8} {l : List Nat} {u : Nat} : sepG (x ++ [58, 58] ++ joinS l) ++ hexT u = x ++ [58, 58] ++ joinS (l ++ [u]) := by
  cases l with
  | nil =>
    rw [joinS_nil, List.append_nil]; unfold sepG
    rw [if_pos (.inr (by rw [getLast_app (by simp)]; rfl))]; simp [joinS_cons, Lib.joinTail]
  | cons v l =>
    obtain ⟨h1, h2⟩ := joinS_last (l := v :: l) (by simp)
    unfold sepG
    rw [if_neg (fun h => h.elim (fun h => by simp at h) (fun h => by rw [getLast_app h1] at h; contradiction)), joinS_snoc (by simp)]; simp
/-- What is laid of the first groups. -/
def outAt (G : List Nat) (r : Nat × Nat) (i : Nat) : List UInt8 :=
  if r.1 = r.2 ∨ i ≤ r.1 then joinS (G.take i) else joinS (G.take r.1) ++ [58, 58] ++ joinS ((G.take i).drop r.2)
theorem outAt_zero (G : List Nat) (r : Nat × Nat) : outAt G r 0 = [] := by unfold outAt; rw [if_pos (.inr (Nat.zero_le _))]; rfl
theorem outAt_step {G : List Nat} {r : Nat × Nat} {i u : Nat} (hr : r.1 ≤ r.2) (hu : G[i]? = some u) (h : r.1 = r.2 ∨ i < r.1 ∨ r.2 ≤ i) : sepG (outAt G r i) ++ hexT u = outAt G r (i + 1) := by
  unfold outAt
  by_cases h1 : r.1 = r.2 ∨ i + 1 ≤ r.1
  · rw [if_pos h1, if_pos (by omega), sep_join, take_snoc hu]
  · have hi := (List.getElem?_eq_some_iff.1 hu).1
    rw [if_neg h1, if_neg (by omega), sep_gap, take_snoc hu, List.drop_append_of_le_length (by rw [List.length_take]; omega)]
theorem outAt_gap {G : List Nat} {r : Nat × Nat} (h : r.1 < r.2) : outAt G r r.1 ++ [58, 58] = outAt G r r.2 := by
  unfold outAt
  rw [if_pos (.inr (Nat.le_refl _)), if_neg (by omega), List.drop_eq_nil_of_le (by rw [List.length_take]; omega), joinS_nil, List.append_nil]
theorem outAt_all {a : List Int} : outAt (groups a) (runAt (groups a) 8) 8 = groupedS a := by
  have h := runAt_le (groups a) 8 (by rw [groups_len]; omega)
  have h2 := runAt_two (groups a) 8
  have hl := groups_len a
  unfold outAt groupedS
  simp only
  generalize groups a = G at *
  generalize runAt G 8 = r at *
  rw [List.take_of_length_le (l := G) (by omega)]
  by_cases e : r.1 = r.2
  · rw [if_pos (.inl e), if_pos e.symm]
  · rw [if_neg (by omega), if_neg (by omega)]
/-- Where the longest run is, as the document keeps it; how long. -/
def bestI (r : Nat × Nat) : Int := if r.1 = r.2 then -1 else r.1
def longN (r : Nat × Nat) : Nat := max (r.2 - r.1) 1
theorem run_more {G : List Nat} {i n : Nat} (hn : zc (G.drop i) = n) (h : longN (runAt G i) < n) : bestI (runAt G (i + 1)) = i ∧ longN (runAt G (i + 1)) = n := by
  subst hn
  unfold longN at h
  have e : runAt G (i + 1) = (i, i + zc (G.drop i)) := by show runStep G (runAt G i) i = _; unfold runStep; rw [if_pos h]
  rw [e]
  unfold bestI longN
  simp only
  rw [if_neg (by omega)]
  exact ⟨rfl, by omega⟩
theorem run_less {G : List Nat} {i n : Nat} (hn : zc (G.drop i) = n) (h : ¬ longN (runAt G i) < n) : runAt G (i + 1) = runAt G i := by
  subst hn
  unfold longN at h
  show runStep G (runAt G i) i = _
  unfold runStep
  rw [if_neg h]
theorem longN_le {G : List Nat} {i : Nat} (h : i ≤ G.length) : 1 ≤ longN (runAt G i) ∧ longN (runAt G i) ≤ G.length + 1 := by
  have := runAt_le G i h
  unfold longN; omega
theorem gr_zero {a : List Int} (ha : isA a) {j : Nat} (h : j < 8) {x y : Int} (hx : a.getD (2 * j) 0 = x) (hy : a.getD (2 * j + 1) 0 = y) (x0 : 0 ≤ x) (y0 : 0 ≤ y) : gr a j = 0 ↔ x = 0 ∧ y = 0 := by
  unfold gr; rw [hx, hy]; omega
theorem zc_end {l : List Nat} {n : Nat} (h : l.length ≤ n) : zc (l.drop n) = 0 := by rw [List.drop_eq_nil_of_le h]; rfl
theorem groupedS_len {a : List Int} (ha : isA a) (i : Nat) (hi : i ≤ 8) : (outAt (groups a) (runAt (groups a) 8) i).length ≤ 100 := by
  have tl : ∀ l : List Nat, (∀ u ∈ l, u < 65536) → (Lib.joinTail [58] (l.map hexT)).length ≤ 5 * l.length := by
    intro l
    induction l with
    | nil => intro _; simp [Lib.joinTail]
    | cons u l ih =>
      intro h
      have h1 := hexT_len 3 u (h u (by simp))
      have h2 := ih fun v hv => h v (by simp [hv])
      rw [tail_cons]; simp; omega
  have jl : ∀ l : List Nat, (∀ u ∈ l, u < 65536) → (joinS l).length ≤ 5 * l.length := by
    intro l h
    cases l with
    | nil => simp [joinS_nil]
    | cons u l =>
      have h1 := hexT_len 3 u (h u (by simp))
      have h2 := tl l fun v hv => h v (by simp [hv])
      rw [joinS_cons]; simp; omega
  have hlt := groups_lt ha
  have hl := groups_len a
  unfold outAt
  split
  · have := jl ((groups a).take i) fun u hu => hlt u (List.mem_of_mem_take hu)
    rw [List.length_take] at this; omega
  · have h1 := jl ((groups a).take (runAt (groups a) 8).1) fun u hu => hlt u (List.mem_of_mem_take hu)
    have h2 := jl (((groups a).take i).drop (runAt (groups a) 8).2) fun u hu => hlt u (List.mem_of_mem_take (List.mem_of_mem_drop hu))
    rw [List.length_take] at h1
    rw [List.length_drop, List.length_take] at h2
    simp; omega
end Go.Proofs.YtnljjlaececnkaaGreatDoor
/-
  An address in groups, the document's. Condition: an address is sixteen bytes.
-/
namespace Go.Proofs.YtnljjlaececnkaaGreatDoor
open Go.RowKit
set_option linter.unusedVariables false
set_option linter.unusedSimpArgs false
theorem or_bytes64 {x y : Int} (x0 : 0 ≤ x) (x1 : x < 256) (y0 : 0 ≤ y) (y1 : y < 256) : bits .or .i64 (x * 256) y = x * 256 + y := by
  have w : ∀ n : Int, 0 ≤ n → n < 2 ^ 63 → IntKind.i64.wrap n = n := fun n h0 h1 => IntWalk.i64_in _ (by omega)
  exact bits_join .i64 63 (by decide) w 8 (x * 256) y (by omega) (by simp) (by simp; omega) y0 (by simpa using y1) (by simp; omega)
theorem ba_add (W : World) (s t : ByteArray) (h : s.size + t.size ≤ 9223372036854775807) : (binOp .add 9 (.string s) (.string t)).run Tryz.prog W = .ok (.string (s ++ t)) W := by
  rw [binOp_string_add]
  exact run_string_add_sum (P := Tryz.prog) (w := W) s t (by omega)
/-- A text that wants no colon, or one that does. -/
theorem sepG_cases (o : List UInt8) : (o = [] ∧ sepG o = o) ∨ (∃ m x, o.length = m + 1 ∧ o[m]? = some x ∧ ((x = 58 ∧ sepG o = o) ∨ (x ≠ 58 ∧ sepG o = o ++ [58]))) := by
  rcases List.eq_nil_or_concat o with rfl | ⟨m, x, rfl⟩
  · exact .inl ⟨rfl, rfl⟩
  · right
    rw [List.concat_eq_append]
    refine ⟨m.length, x, by simp, by simp, ?_⟩
    by_cases h : x = 58
    · exact .inl ⟨h, by unfold sepG; rw [if_pos (.inr (by simp [h]))]⟩
    · exact .inr ⟨h, by unfold sepG; exact if_neg (fun h1 => h1.elim (fun h1 => by simp at h1) (fun h1 => by simp at h1; exact h h1))⟩
set_option maxRecDepth 100000 in
set_option maxHeartbeats 3200000 in
/-- sixes. -/
theorem sixes_any {w : World} {a : List Int} (ha : isA a) : Calls Tryz.prog 108 #[vA a] w fun e w' => e = .returned (.string ⟨(groupedS a).toArray⟩) ∧ Below w.heap.size w w' := by
  have B := ((Bz.start w).alloc (oA a) rfl : Bz w [(w.heap.size, oA a)] _)
  have hb := Lib.hid (box1 w (oA a))
  have Ha := Lib.hid ha
  clear ha
  obtain ⟨G, hG⟩ : ∃ G, groups a = G := ⟨_, rfl⟩
  have hl : G.length = 8 := by rw [← hG]; exact groups_len a
  replace hl := Lib.hid hl
  replace hG := Lib.hid hG
  unfold vA
  go_enter Tryz.func108, Tryz.ntmps108
  go_wp2
  go_loop [3, 4, 5] (fun x3 x4 x5 => ∃ (i m : Nat) (b : Int), i ≤ 8 ∧ x5 = .int .i64 i ∧ x3 = .int .i64 b ∧ x4 = .int .i64 m ∧ 1 ≤ m ∧ m ≤ 9 ∧ Hid (bestI (runAt G i) = b ∧ longN (runAt G i) = m)) (fun _ _ x5 => 8 - (intOf x5).toNat)
  case atStart => exact ⟨0, 1, -1, by omega, rfl, rfl, rfl, by omega, by omega, Lib.hid ⟨rfl, rfl⟩⟩
  case round =>
    obtain ⟨i, m, b, hi, rfl, rfl, rfl, m1, m9, hbm⟩ := hrel
    by_cases hlt : i < 8
    · go_wp2
      go_loop [6] (fun x6 => ∃ n : Nat, i + n ≤ 8 ∧ x6 = .int .i64 n ∧ Hid (zc (G.drop i) = n + zc (G.drop (i + n)))) (fun x6 => 8 - (intOf x6).toNat)
      case atStart => exact ⟨0, by omega, rfl, Lib.hid (by simp)⟩
      case round =>
        obtain ⟨n, hn, rfl, hz⟩ := hrel
        have fin : ∀ (h0 : Hid (zc (G.drop (i + n)) = 0)), Hid (zc (G.drop i) = n) := fun h0 => Lib.hid (by have := hz.out; rw [h0.out] at this; omega)
        have hmore : ∀ (h0 : Hid (zc (G.drop i) = n)) (h : m < n), Hid (bestI (runAt G (i + 1)) = i ∧ longN (runAt G (i + 1)) = n) := fun h0 h => Lib.hid (run_more h0.out (by rw [hbm.out.2]; exact h))
        have hless : ∀ (h0 : Hid (zc (G.drop i) = n)) (h : ¬ m < n), Hid (bestI (runAt G (i + 1)) = b ∧ longN (runAt G (i + 1)) = m) := fun h0 h => Lib.hid (by rw [run_less h0.out (by rw [hbm.out.2]; exact h)]; exact hbm.out)
        by_cases hlt2 : i + n < 8
        · obtain ⟨x, hx, hx2, x0, x1⟩ := isA_getD Ha.out (j := 2 * (i + n)) (by omega)
          obtain ⟨y, hy, hy2, y0, y1⟩ := isA_getD Ha.out (j := 2 * (i + n) + 1) (by omega)
          have hgr := gr_zero Ha.out hlt2 hx2 hy2 x0 y0
          have hget : G[i + n]? = some (gr a (i + n)) := by rw [← hG.out]; exact groups_get hlt2
          have cx : (w.alloc (oA a)).cell? ⟨w.heap.size, 2 * (i + n), none⟩ = some (.int .u8 x) := (row_cell hb.out).trans (by rw [List.getElem?_toArray]; exact nums_get hx)
          have cy : (w.alloc (oA a)).cell? ⟨w.heap.size, 2 * (i + n) + 1, none⟩ = some (.int .u8 y) := (row_cell hb.out).trans (by rw [List.getElem?_toArray]; exact nums_get hy)
          unfold oA at cx cy
          by_cases hxz : x = 0
          · by_cases hyz : y = 0
            · have hnx : Hid (zc (G.drop i) = n + 1 + zc (G.drop (i + (n + 1)))) := Lib.hid (by
                have h0 := hgr.2 ⟨hxz, hyz⟩
                rw [h0] at hget
                rw [hz.out, zc_zero hget, Nat.add_assoc i n 1]; omega)
              clear hgr hget hx2 hy2 hx hy fin hmore hless
              subst hxz hyz
              go_wp2
              refine ⟨⟨n + 1, by omega, by congr 1, hnx⟩, by simp [intOf]; omega⟩
            · have hzc : Hid (zc (G.drop (i + n)) = 0) := Lib.hid (zc_pos hget (fun h => hyz (hgr.1 h).2))
              have hyb : (y == 0) = false := by simpa using hyz
              have hF := fin hzc
              clear hgr hget hx2 hy2 hx hy fin
              subst hxz
              replace hyz := Lib.hid hyz
              by_cases hmn : m < n
              · have hR := hmore hF hmn
                clear hmore hless
                go_wp2
                refine ⟨⟨i + 1, n, i, by omega, by congr 1, rfl, rfl, by omega, by omega, hR⟩, by simp [intOf]; omega⟩
              · have hR := hless hF hmn
                clear hmore hless
                go_wp2
                refine ⟨⟨i + 1, m, b, by omega, by congr 1, rfl, rfl, by omega, by omega, hR⟩, by simp [intOf]; omega⟩
          · have hzc : Hid (zc (G.drop (i + n)) = 0) := Lib.hid (zc_pos hget (fun h => hxz (hgr.1 h).1))
            have hxb : (x == 0) = false := by simpa using hxz
            have hF := fin hzc
            clear hgr hget hx2 hy2 hx hy fin
            replace hxz := Lib.hid hxz
            by_cases hmn : m < n
            · have hR := hmore hF hmn
              clear hmore hless
              go_wp2
              refine ⟨⟨i + 1, n, i, by omega, by congr 1, rfl, rfl, by omega, by omega, hR⟩, by simp [intOf]; omega⟩
            · have hR := hless hF hmn
              clear hmore hless
              go_wp2
              refine ⟨⟨i + 1, m, b, by omega, by congr 1, rfl, rfl, by omega, by omega, hR⟩, by simp [intOf]; omega⟩
        · have hF := fin (Lib.hid (zc_end (by have := hl.out; omega)))
          by_cases hmn : m < n
          · have hR := hmore hF hmn
            clear hmore hless fin
            go_wp2
            refine ⟨⟨i + 1, n, i, by omega, by congr 1, rfl, rfl, by omega, by omega, hR⟩, by simp [intOf]; omega⟩
          · have hR := hless hF hmn
            clear hmore hless fin
            go_wp2
            refine ⟨⟨i + 1, m, b, by omega, by congr 1, rfl, rfl, by omega, by omega, hR⟩, by simp [intOf]; omega⟩
    · obtain rfl : i = 8 := by omega
      obtain ⟨r, hr⟩ : ∃ r, runAt G 8 = r := ⟨_, rfl⟩
      have hle := runAt_le G 8 (by have := hl.out; omega)
      have htw := runAt_two G 8
      have hb1 := hbm.out.1
      have hm1 := hbm.out.2
      have hall : outAt G r 8 = groupedS a := by rw [← hr, ← hG.out]; exact outAt_all
      have hlen : ∀ j, j ≤ 8 → (outAt G r j).length ≤ 100 := by intro j hj; have := groupedS_len Ha.out j hj; rwa [hG.out, hr] at this
      rw [hr] at hle htw hb1 hm1
      obtain ⟨lo, hi2⟩ := r
      simp only at hle htw
      have hcase : (lo = hi2 ∧ b = -1) ∨ (lo < hi2 ∧ b = lo ∧ lo + m = hi2) := by
        unfold bestI at hb1
        unfold longN at hm1
        simp only at hb1 hm1
        split at hb1 <;> omega
      have h28 : hi2 ≤ 8 := by have := hl.out; omega
      replace hall := Lib.hid hall
      replace hlen := Lib.hid hlen
      clear hr hb1 hm1 hbm htw
      go_wp2
      go_loopw [7, 8] (fun x7 x8 wr => ∃ (j : Nat) (O : ByteArray), j ≤ 8 ∧ (lo = hi2 ∨ j ≤ lo ∨ hi2 ≤ j) ∧ x8 = .int .i64 j ∧ x7 = .string O ∧ Hid (O = ⟨(outAt G (lo, hi2) j).toArray⟩) ∧ Bz w [(w.heap.size, oA a)] wr) (fun x7 x8 wr => 8 - (intOf x8).toNat)
      case atStart => exact ⟨0, _, by omega, by omega, rfl, rfl, Lib.hid (by rw [outAt_zero]), B⟩
      case round =>
        obtain ⟨j, O, hj, hsk, rfl, rfl, hO, bx⟩ := hrel
        have hsz : O.size ≤ 100 := by rw [hO.out]; show (outAt G (lo, hi2) j).toArray.size ≤ 100; rw [List.size_toArray]; exact hlen.out j hj
        by_cases hlt : j < 8
        · by_cases hbest : lo < hi2 ∧ j = lo
          · obtain ⟨hlo, rfl⟩ := hbest
            have eqb : b = j := by omega
            subst eqb
            have hnx : Hid (O ++ (⟨#[58, 58]⟩ : ByteArray) = ⟨(outAt G (j, hi2) hi2).toArray⟩) := Lib.hid (by
              rw [← outAt_gap (r := (j, hi2)) hlo, hO.out]
              show (⟨(outAt G (j, hi2) j).toArray⟩ : ByteArray) ++ ⟨#[58, 58]⟩ = _
              apply ByteArray.ext; simp)
            go_wp2
            refine ⟨⟨hi2, _, by omega, by omega, by congr 1; omega, rfl, hnx, bx⟩, by simp [intOf]; omega⟩
          · have hne : ((j : Int) == b) = false := by simp; omega
            obtain ⟨x, hx, hx2, x0, x1⟩ := isA_getD Ha.out (j := 2 * j) (by omega)
            obtain ⟨y, hy, hy2, y0, y1⟩ := isA_getD Ha.out (j := 2 * j + 1) (by omega)
            have hg : ((gr a j : Nat) : Int) = x * 256 + y := by unfold gr; rw [hx2, hy2]; omega
            have hhx : hexI (x * 256 + y) = hexT (gr a j) := by rw [← hg]; rfl
            have hl4 : (hexI (x * 256 + y)).length ≤ 4 := hexI_len (by omega) (by omega)
            have hhs : (⟨(hexI (x * 256 + y)).toArray⟩ : ByteArray).size ≤ 4 := by show (hexI (x * 256 + y)).toArray.size ≤ 4; rw [List.size_toArray]; exact hl4
            have hget : G[j]? = some (gr a j) := by rw [← hG.out]; exact groups_get hlt
            have key : Hid (∀ P : ByteArray, P = ⟨(sepG (outAt G (lo, hi2) j)).toArray⟩ → P ++ (⟨(hexI (x * 256 + y)).toArray⟩ : ByteArray) = ⟨(outAt G (lo, hi2) (j + 1)).toArray⟩) := Lib.hid (fun P hP => by
              rw [← outAt_step (r := (lo, hi2)) hle.1 hget (by simp only; omega), hP, hhx]
              apply ByteArray.ext; simp)
            have hsep := sepG_cases (outAt G (lo, hi2) j)
            have nxt : lo = hi2 ∨ j + 1 ≤ lo ∨ hi2 ≤ j + 1 := by omega
            replace hx2 := Lib.hid hx2
            replace hy2 := Lib.hid hy2
            have hor := or_bytes64 x0 x1 y0 y1
            have w1 : IntKind.i64.wrap (2 * (j : Int)) = 2 * (j : Int) := IntWalk.i64_in _ (by omega)
            have w2 : IntKind.i64.wrap (2 * (j : Int) + 1) = 2 * (j : Int) + 1 := IntWalk.i64_in _ (by omega)
            have w3 : IntKind.i64.wrap x = x := IntWalk.i64_in _ (by omega)
            have w4 : IntKind.i64.wrap y = y := IntWalk.i64_in _ (by omega)
            have w5 : IntKind.i64.wrap (x * 256) = x * 256 := IntWalk.i64_in _ (by omega)
            have hn1 : (2 * (j : Int)).toNat = 2 * j := by omega
            have hn2 : (2 * (j : Int) + 1).toNat = 2 * j + 1 := by omega
            have q1 : (0 : Int) ≤ 2 * j := by omega
            have q2 : 2 * (j : Int) < 16 := by omega
            have q3 : (0 : Int) ≤ 2 * j + 1 := by omega
            have q4 : 2 * (j : Int) + 1 < 16 := by omega
            clear hx hy hg hhx hget hsk hcase
            rcases hsep with ⟨h0, hs⟩ | ⟨mm, z, hzl, hz, hs⟩
            · have hO2 : O = ⟨#[]⟩ := by rw [hO.out, h0]
              have kk := Lib.hid (key.out ⟨#[]⟩ (by rw [hs, h0]))
              clear hs h0 key
              subst hO2
              have hsum : (⟨#[]⟩ : ByteArray).size + (⟨(hexI (x * 256 + y)).toArray⟩ : ByteArray).size ≤ 9223372036854775807 := by show 0 + _ ≤ _; omega
              replace hhs := Lib.hid hhs
              replace hsum := Lib.hid hsum
              go_wp2_with fail
              refine wp_region_C (C := Bz w [(w.heap.size, oA a)]) (by kernel_rfl) (by kernel_rfl) (bx.drew) ?_
              refine wpQuiet_hide ?_
              intro lq hlq
              refine wpQuiet_step_h hlq ?_
              clear hlq lq
              intro K lq hlq hK
              refine wanted_go (by rfl) ?_
              refine ⟨?_, fun W hW => ?_, ?_⟩
              rotate_left
              · skip
                go_simp
                with_reducible rfl
              refine hK _ ?_
              clear hK K
              (try simp only [Act.put, List.setIfInBounds_toArray, List.set_cons_zero, List.set_cons_succ])
              refine wpQuiet_step_h hlq ?_
              clear hlq lq
              intro K lq hlq hK
              refine wanted_go (by rfl) ?_
              refine ⟨?_, fun W hW => ?_, ?_⟩
              rotate_left
              · skip
                go_simp
                with_reducible rfl
              refine hK _ ?_
              clear hK K
              (try simp only [Act.put, List.setIfInBounds_toArray, List.set_cons_zero, List.set_cons_succ])
              refine wpQuiet_step_h hlq ?_
              clear hlq lq
              intro K lq hlq hK
              refine wanted_go (by rfl) ?_
              refine ⟨?_, fun W hW => ?_, ?_⟩
              rotate_left
              · skip
                go_simp
                with_reducible rfl
              refine hK _ ?_
              clear hK K
              (try simp only [Act.put, List.setIfInBounds_toArray, List.set_cons_zero, List.set_cons_succ])
              refine wpQuiet_step_h hlq ?_
              clear hlq lq
              intro K lq hlq hK
              refine wanted_go (by rfl) ?_
              refine ⟨?_, fun W hW => ?_, ?_⟩
              rotate_left
              · skip
                go_simp
                with_reducible rfl
              refine hK _ ?_
              clear hK K
              (try simp only [Act.put, List.setIfInBounds_toArray, List.set_cons_zero, List.set_cons_succ])
              refine wpQuiet_step_h hlq ?_
              clear hlq lq
              intro K lq hlq hK
              refine wanted_go (by rfl) ?_
              refine ⟨.int .u8 x, fun W hW => ?_, ?_⟩
              · skip
                rw [← hx2.out]; exact quiet_load 5 _ rfl rfl (ldAi (i := 2 * j) (by omega) (hW.all.get 0 (x := (w.heap.size, oA a)) rfl) Ha.out)
              refine hK _ ?_
              clear hK K
              (try simp only [Act.put, List.setIfInBounds_toArray, List.set_cons_zero, List.set_cons_succ])
              refine wpQuiet_step_h hlq ?_
              clear hlq lq
              intro K lq hlq hK
              refine wanted_go (by rfl) ?_
              refine ⟨?_, fun W hW => ?_, ?_⟩
              rotate_left
              · skip
                go_simp
                with_reducible rfl
              refine hK _ ?_
              clear hK K
              (try simp only [Act.put, List.setIfInBounds_toArray, List.set_cons_zero, List.set_cons_succ])
              refine wpQuiet_step_h hlq ?_
              clear hlq lq
              intro K lq hlq hK
              refine wanted_go (by rfl) ?_
              refine ⟨?_, fun W hW => ?_, ?_⟩
              rotate_left
              · skip
                go_simp
                with_reducible rfl
              refine hK _ ?_
              clear hK K
              (try simp only [Act.put, List.setIfInBounds_toArray, List.set_cons_zero, List.set_cons_succ])
              refine wpQuiet_step_h hlq ?_
              clear hlq lq
              intro K lq hlq hK
              refine wanted_go (by rfl) ?_
              refine ⟨?_, fun W hW => ?_, ?_⟩
              rotate_left
              · skip
                go_simp
                with_reducible rfl
              refine hK _ ?_
              clear hK K
              (try simp only [Act.put, List.setIfInBounds_toArray, List.set_cons_zero, List.set_cons_succ])
              refine wpQuiet_step_h hlq ?_
              clear hlq lq
              intro K lq hlq hK
              refine wanted_go (by rfl) ?_
              refine ⟨?_, fun W hW => ?_, ?_⟩
              rotate_left
              · skip
                go_simp
                with_reducible rfl
              refine hK _ ?_
              clear hK K
              (try simp only [Act.put, List.setIfInBounds_toArray, List.set_cons_zero, List.set_cons_succ])
              refine wpQuiet_step_h hlq ?_
              clear hlq lq
              intro K lq hlq hK
              refine wanted_go (by rfl) ?_
              refine ⟨?_, fun W hW => ?_, ?_⟩
              rotate_left
              · skip
                go_simp
                with_reducible rfl
              refine hK _ ?_
              clear hK K
              (try simp only [Act.put, List.setIfInBounds_toArray, List.set_cons_zero, List.set_cons_succ])
              refine wpQuiet_step_h hlq ?_
              clear hlq lq
              intro K lq hlq hK
              refine wanted_go (by rfl) ?_
              refine ⟨?_, fun W hW => ?_, ?_⟩
              rotate_left
              · skip
                go_simp
                with_reducible rfl
              refine hK _ ?_
              clear hK K
              (try simp only [Act.put, List.setIfInBounds_toArray, List.set_cons_zero, List.set_cons_succ])
              refine wpQuiet_step_h hlq ?_
              clear hlq lq
              intro K lq hlq hK
              refine wanted_go (by rfl) ?_
              refine ⟨.int .u8 y, fun W hW => ?_, ?_⟩
              · skip
                rw [← hy2.out]; exact quiet_load 5 _ rfl rfl (ldAi (i := 2 * j + 1) (by omega) (hW.all.get 0 (x := (w.heap.size, oA a)) rfl) Ha.out)
              refine hK _ ?_
              clear hK K
              (try simp only [Act.put, List.setIfInBounds_toArray, List.set_cons_zero, List.set_cons_succ])
              refine wpQuiet_step_h hlq ?_
              clear hlq lq
              intro K lq hlq hK
              refine wanted_go (by rfl) ?_
              refine ⟨?_, fun W hW => ?_, ?_⟩
              rotate_left
              · skip
                go_simp
                with_reducible rfl
              refine hK _ ?_
              clear hK K
              (try simp only [Act.put, List.setIfInBounds_toArray, List.set_cons_zero, List.set_cons_succ])
              refine wpQuiet_step_h hlq ?_
              clear hlq lq
              intro K lq hlq hK
              refine wanted_go (by rfl) ?_
              refine ⟨?_, fun W hW => ?_, ?_⟩
              rotate_left
              · skip
                go_simp
                with_reducible rfl
              refine hK _ ?_
              clear hK K
              (try simp only [Act.put, List.setIfInBounds_toArray, List.set_cons_zero, List.set_cons_succ])
              refine wpQuiet_step_h hlq ?_
              clear hlq lq
              intro K lq hlq hK
              refine wanted_go (by rfl) ?_
              refine ⟨.string ⟨(hexI (x * 256 + y)).toArray⟩, fun W hW => ?_, ?_⟩
              · go_simp
                exact (hexes_call (by omega) (by omega)).mono fun e W2 hc2 => ⟨hc2.1, hW.go hc2.2⟩
              refine hK _ ?_
              clear hK K
              (try simp only [Act.put, List.setIfInBounds_toArray, List.set_cons_zero, List.set_cons_succ])
              refine wpQuiet_step_h hlq ?_
              clear hlq lq
              intro K lq hlq hK
              refine wanted_go (by rfl) ?_
              refine ⟨.string ((⟨#[]⟩ : ByteArray) ++ ⟨(hexI (x * 256 + y)).toArray⟩), fun W hW => ?_, ?_⟩
              · skip
                exact quiet_add rfl rfl rfl (ba_add W _ _ hsum.out)
              refine hK _ ?_
              clear hK K
              (try simp only [Act.put, List.setIfInBounds_toArray, List.set_cons_zero, List.set_cons_succ])
              refine wpQuiet_step_h hlq ?_
              clear hlq lq
              intro K lq hlq hK
              refine wanted_go (by rfl) ?_
              refine ⟨?_, fun W hW => ?_, ?_⟩
              rotate_left
              · skip
                go_simp
                with_reducible rfl
              refine hK _ ?_
              clear hK K
              (try simp only [Act.put, List.setIfInBounds_toArray, List.set_cons_zero, List.set_cons_succ])
              refine wpQuiet_nil_h hlq ?_
              clear hlq lq bx
              intro V1 hV2
              go_wp2_with fail
              refine ⟨⟨j + 1, _, by omega, nxt, by congr 1, rfl, kk, hV2⟩, by simp [intOf]; omega⟩
            · have hs2 : O.size = mm + 1 := by rw [hO.out]; show (outAt G (lo, hi2) j).toArray.size = _; rw [List.size_toArray, hzl]
              have he := emp_false (s := O) (by omega)
              have hzb : O[mm]'(by omega) = z := by
                have h1 := get_byte O mm (by omega)
                have h2 : O.data.toList = outAt G (lo, hi2) j := by rw [hO.out]
                rw [h2, hz] at h1
                exact (Option.some.inj h1).symm
              have hix : ((O.size : Int) - 1) = (mm : Int) := by omega
              rcases hs with ⟨hz58, hs⟩ | ⟨hz58, hs⟩
              · have hb : ((O[mm]'(by omega)).toNat : Int) = 58 := by rw [hzb, hz58]; rfl
                have hb2 : (((O[mm]'(by omega)).toNat : Int) != 58) = false := by rw [hb]; rfl
                have kk := Lib.hid (key.out O (by rw [hs]; exact hO.out))
                have hsum : O.size + (⟨(hexI (x * 256 + y)).toArray⟩ : ByteArray).size ≤ 9223372036854775807 := by omega
                replace hhs := Lib.hid hhs
                replace hsum := Lib.hid hsum
                clear hs key hb hzb hz hzl
                go_wp2_with fail
                refine wp_region_C (C := Bz w [(w.heap.size, oA a)]) (by kernel_rfl) (by kernel_rfl) (bx.drew) ?_
                refine wpQuiet_hide ?_
                intro lq hlq
                refine wpQuiet_step_h hlq ?_
                clear hlq lq
                intro K lq hlq hK
                refine wanted_go (by rfl) ?_
                refine ⟨?_, fun W hW => ?_, ?_⟩
                rotate_left
                · skip
                  go_simp
                  with_reducible rfl
                refine hK _ ?_
                clear hK K
                (try simp only [Act.put, List.setIfInBounds_toArray, List.set_cons_zero, List.set_cons_succ])
                refine wpQuiet_step_h hlq ?_
                clear hlq lq
                intro K lq hlq hK
                refine wanted_go (by rfl) ?_
                refine ⟨?_, fun W hW => ?_, ?_⟩
                rotate_left
                · skip
                  go_simp
                  with_reducible rfl
                refine hK _ ?_
                clear hK K
                (try simp only [Act.put, List.setIfInBounds_toArray, List.set_cons_zero, List.set_cons_succ])
                refine wpQuiet_step_h hlq ?_
                clear hlq lq
                intro K lq hlq hK
                refine wanted_go (by rfl) ?_
                refine ⟨?_, fun W hW => ?_, ?_⟩
                rotate_left
                · skip
                  go_simp
                  with_reducible rfl
                refine hK _ ?_
                clear hK K
                (try simp only [Act.put, List.setIfInBounds_toArray, List.set_cons_zero, List.set_cons_succ])
                refine wpQuiet_step_h hlq ?_
                clear hlq lq
                intro K lq hlq hK
                refine wanted_go (by rfl) ?_
                refine ⟨?_, fun W hW => ?_, ?_⟩
                rotate_left
                · skip
                  go_simp
                  with_reducible rfl
                refine hK _ ?_
                clear hK K
                (try simp only [Act.put, List.setIfInBounds_toArray, List.set_cons_zero, List.set_cons_succ])
                refine wpQuiet_step_h hlq ?_
                clear hlq lq
                intro K lq hlq hK
                refine wanted_go (by rfl) ?_
                refine ⟨.int .u8 x, fun W hW => ?_, ?_⟩
                · skip
                  rw [← hx2.out]; exact quiet_load 5 _ rfl rfl (ldAi (i := 2 * j) (by omega) (hW.all.get 0 (x := (w.heap.size, oA a)) rfl) Ha.out)
                refine hK _ ?_
                clear hK K
                (try simp only [Act.put, List.setIfInBounds_toArray, List.set_cons_zero, List.set_cons_succ])
                refine wpQuiet_step_h hlq ?_
                clear hlq lq
                intro K lq hlq hK
                refine wanted_go (by rfl) ?_
                refine ⟨?_, fun W hW => ?_, ?_⟩
                rotate_left
                · skip
                  go_simp
                  with_reducible rfl
                refine hK _ ?_
                clear hK K
                (try simp only [Act.put, List.setIfInBounds_toArray, List.set_cons_zero, List.set_cons_succ])
                refine wpQuiet_step_h hlq ?_
                clear hlq lq
                intro K lq hlq hK
                refine wanted_go (by rfl) ?_
                refine ⟨?_, fun W hW => ?_, ?_⟩
                rotate_left
                · skip
                  go_simp
                  with_reducible rfl
                refine hK _ ?_
                clear hK K
                (try simp only [Act.put, List.setIfInBounds_toArray, List.set_cons_zero, List.set_cons_succ])
                refine wpQuiet_step_h hlq ?_
                clear hlq lq
                intro K lq hlq hK
                refine wanted_go (by rfl) ?_
                refine ⟨?_, fun W hW => ?_, ?_⟩
                rotate_left
                · skip
                  go_simp
                  with_reducible rfl
                refine hK _ ?_
                clear hK K
                (try simp only [Act.put, List.setIfInBounds_toArray, List.set_cons_zero, List.set_cons_succ])
                refine wpQuiet_step_h hlq ?_
                clear hlq lq
                intro K lq hlq hK
                refine wanted_go (by rfl) ?_
                refine ⟨?_, fun W hW => ?_, ?_⟩
                rotate_left
                · skip
                  go_simp
                  with_reducible rfl
                refine hK _ ?_
                clear hK K
                (try simp only [Act.put, List.setIfInBounds_toArray, List.set_cons_zero, List.set_cons_succ])
                refine wpQuiet_step_h hlq ?_
                clear hlq lq
                intro K lq hlq hK
                refine wanted_go (by rfl) ?_
                refine ⟨?_, fun W hW => ?_, ?_⟩
                rotate_left
                · skip
                  go_simp
                  with_reducible rfl
                refine hK _ ?_
                clear hK K
                (try simp only [Act.put, List.setIfInBounds_toArray, List.set_cons_zero, List.set_cons_succ])
                refine wpQuiet_step_h hlq ?_
                clear hlq lq
                intro K lq hlq hK
                refine wanted_go (by rfl) ?_
                refine ⟨?_, fun W hW => ?_, ?_⟩
                rotate_left
                · skip
                  go_simp
                  with_reducible rfl
                refine hK _ ?_
                clear hK K
                (try simp only [Act.put, List.setIfInBounds_toArray, List.set_cons_zero, List.set_cons_succ])
                refine wpQuiet_step_h hlq ?_
                clear hlq lq
                intro K lq hlq hK
                refine wanted_go (by rfl) ?_
                refine ⟨.int .u8 y, fun W hW => ?_, ?_⟩
                · skip
                  rw [← hy2.out]; exact quiet_load 5 _ rfl rfl (ldAi (i := 2 * j + 1) (by omega) (hW.all.get 0 (x := (w.heap.size, oA a)) rfl) Ha.out)
                refine hK _ ?_
                clear hK K
                (try simp only [Act.put, List.setIfInBounds_toArray, List.set_cons_zero, List.set_cons_succ])
                refine wpQuiet_step_h hlq ?_
                clear hlq lq
                intro K lq hlq hK
                refine wanted_go (by rfl) ?_
                refine ⟨?_, fun W hW => ?_, ?_⟩
                rotate_left
                · skip
                  go_simp
                  with_reducible rfl
                refine hK _ ?_
                clear hK K
                (try simp only [Act.put, List.setIfInBounds_toArray, List.set_cons_zero, List.set_cons_succ])
                refine wpQuiet_step_h hlq ?_
                clear hlq lq
                intro K lq hlq hK
                refine wanted_go (by rfl) ?_
                refine ⟨?_, fun W hW => ?_, ?_⟩
                rotate_left
                · skip
                  go_simp
                  with_reducible rfl
                refine hK _ ?_
                clear hK K
                (try simp only [Act.put, List.setIfInBounds_toArray, List.set_cons_zero, List.set_cons_succ])
                refine wpQuiet_step_h hlq ?_
                clear hlq lq
                intro K lq hlq hK
                refine wanted_go (by rfl) ?_
                refine ⟨.string ⟨(hexI (x * 256 + y)).toArray⟩, fun W hW => ?_, ?_⟩
                · go_simp
                  exact (hexes_call (by omega) (by omega)).mono fun e W2 hc2 => ⟨hc2.1, hW.go hc2.2⟩
                refine hK _ ?_
                clear hK K
                (try simp only [Act.put, List.setIfInBounds_toArray, List.set_cons_zero, List.set_cons_succ])
                refine wpQuiet_step_h hlq ?_
                clear hlq lq
                intro K lq hlq hK
                refine wanted_go (by rfl) ?_
                refine ⟨.string (O ++ ⟨(hexI (x * 256 + y)).toArray⟩), fun W hW => ?_, ?_⟩
                · skip
                  exact quiet_add rfl rfl rfl (ba_add W _ _ hsum.out)
                refine hK _ ?_
                clear hK K
                (try simp only [Act.put, List.setIfInBounds_toArray, List.set_cons_zero, List.set_cons_succ])
                refine wpQuiet_step_h hlq ?_
                clear hlq lq
                intro K lq hlq hK
                refine wanted_go (by rfl) ?_
                refine ⟨?_, fun W hW => ?_, ?_⟩
                rotate_left
                · skip
                  go_simp
                  with_reducible rfl
                refine hK _ ?_
                clear hK K
                (try simp only [Act.put, List.setIfInBounds_toArray, List.set_cons_zero, List.set_cons_succ])
                refine wpQuiet_nil_h hlq ?_
                clear hlq lq bx
                intro V1 hV2
                go_wp2_with fail
                refine ⟨⟨j + 1, _, by omega, nxt, by congr 1, rfl, kk, hV2⟩, by simp [intOf]; omega⟩
              · have hb : ((O[mm]'(by omega)).toNat : Int) ≠ 58 := by
                  rw [hzb]; intro e; exact hz58 (UInt8.toNat_inj.1 (by have : (58 : UInt8).toNat = 58 := rfl; omega))
                have hb2 : (((O[mm]'(by omega)).toNat : Int) != 58) = true := by simpa using hb
                have kk := Lib.hid (key.out (O ++ (⟨#[58]⟩ : ByteArray)) (by
                  rw [hs, hO.out]
                  show (⟨(outAt G (lo, hi2) j).toArray⟩ : ByteArray) ++ ⟨#[58]⟩ = _
                  apply ByteArray.ext; simp))
                have hsum : (O ++ (⟨#[58]⟩ : ByteArray)).size + (⟨(hexI (x * 256 + y)).toArray⟩ : ByteArray).size ≤ 9223372036854775807 := by
                  have h1 : (O ++ (⟨#[58]⟩ : ByteArray)).size = O.size + 1 := by rw [ByteArray.size_append]; rfl
                  omega
                replace hhs := Lib.hid hhs
                replace hsum := Lib.hid hsum
                clear hs key hb hzb hz hzl
                go_wp2_with fail
                refine wp_region_C (C := Bz w [(w.heap.size, oA a)]) (by kernel_rfl) (by kernel_rfl) (bx.drew) ?_
                refine wpQuiet_hide ?_
                intro lq hlq
                refine wpQuiet_step_h hlq ?_
                clear hlq lq
                intro K lq hlq hK
                refine wanted_go (by rfl) ?_
                refine ⟨?_, fun W hW => ?_, ?_⟩
                rotate_left
                · skip
                  go_simp
                  with_reducible rfl
                refine hK _ ?_
                clear hK K
                (try simp only [Act.put, List.setIfInBounds_toArray, List.set_cons_zero, List.set_cons_succ])
                refine wpQuiet_step_h hlq ?_
                clear hlq lq
                intro K lq hlq hK
                refine wanted_go (by rfl) ?_
                refine ⟨?_, fun W hW => ?_, ?_⟩
                rotate_left
                · skip
                  go_simp
                  with_reducible rfl
                refine hK _ ?_
                clear hK K
                (try simp only [Act.put, List.setIfInBounds_toArray, List.set_cons_zero, List.set_cons_succ])
                refine wpQuiet_step_h hlq ?_
                clear hlq lq
                intro K lq hlq hK
                refine wanted_go (by rfl) ?_
                refine ⟨?_, fun W hW => ?_, ?_⟩
                rotate_left
                · skip
                  go_simp
                  with_reducible rfl
                refine hK _ ?_
                clear hK K
                (try simp only [Act.put, List.setIfInBounds_toArray, List.set_cons_zero, List.set_cons_succ])
                refine wpQuiet_step_h hlq ?_
                clear hlq lq
                intro K lq hlq hK
                refine wanted_go (by rfl) ?_
                refine ⟨?_, fun W hW => ?_, ?_⟩
                rotate_left
                · skip
                  go_simp
                  with_reducible rfl
                refine hK _ ?_
                clear hK K
                (try simp only [Act.put, List.setIfInBounds_toArray, List.set_cons_zero, List.set_cons_succ])
                refine wpQuiet_step_h hlq ?_
                clear hlq lq
                intro K lq hlq hK
                refine wanted_go (by rfl) ?_
                refine ⟨.int .u8 x, fun W hW => ?_, ?_⟩
                · skip
                  rw [← hx2.out]; exact quiet_load 5 _ rfl rfl (ldAi (i := 2 * j) (by omega) (hW.all.get 0 (x := (w.heap.size, oA a)) rfl) Ha.out)
                refine hK _ ?_
                clear hK K
                (try simp only [Act.put, List.setIfInBounds_toArray, List.set_cons_zero, List.set_cons_succ])
                refine wpQuiet_step_h hlq ?_
                clear hlq lq
                intro K lq hlq hK
                refine wanted_go (by rfl) ?_
                refine ⟨?_, fun W hW => ?_, ?_⟩
                rotate_left
                · skip
                  go_simp
                  with_reducible rfl
                refine hK _ ?_
                clear hK K
                (try simp only [Act.put, List.setIfInBounds_toArray, List.set_cons_zero, List.set_cons_succ])
                refine wpQuiet_step_h hlq ?_
                clear hlq lq
                intro K lq hlq hK
                refine wanted_go (by rfl) ?_
                refine ⟨?_, fun W hW => ?_, ?_⟩
                rotate_left
                · skip
                  go_simp
                  with_reducible rfl
                refine hK _ ?_
                clear hK K
                (try simp only [Act.put, List.setIfInBounds_toArray, List.set_cons_zero, List.set_cons_succ])
                refine wpQuiet_step_h hlq ?_
                clear hlq lq
                intro K lq hlq hK
                refine wanted_go (by rfl) ?_
                refine ⟨?_, fun W hW => ?_, ?_⟩
                rotate_left
                · skip
                  go_simp
                  with_reducible rfl
                refine hK _ ?_
                clear hK K
                (try simp only [Act.put, List.setIfInBounds_toArray, List.set_cons_zero, List.set_cons_succ])
                refine wpQuiet_step_h hlq ?_
                clear hlq lq
                intro K lq hlq hK
                refine wanted_go (by rfl) ?_
                refine ⟨?_, fun W hW => ?_, ?_⟩
                rotate_left
                · skip
                  go_simp
                  with_reducible rfl
                refine hK _ ?_
                clear hK K
                (try simp only [Act.put, List.setIfInBounds_toArray, List.set_cons_zero, List.set_cons_succ])
                refine wpQuiet_step_h hlq ?_
                clear hlq lq
                intro K lq hlq hK
                refine wanted_go (by rfl) ?_
                refine ⟨?_, fun W hW => ?_, ?_⟩
                rotate_left
                · skip
                  go_simp
                  with_reducible rfl
                refine hK _ ?_
                clear hK K
                (try simp only [Act.put, List.setIfInBounds_toArray, List.set_cons_zero, List.set_cons_succ])
                refine wpQuiet_step_h hlq ?_
                clear hlq lq
                intro K lq hlq hK
                refine wanted_go (by rfl) ?_
                refine ⟨?_, fun W hW => ?_, ?_⟩
                rotate_left
                · skip
                  go_simp
                  with_reducible rfl
                refine hK _ ?_
                clear hK K
                (try simp only [Act.put, List.setIfInBounds_toArray, List.set_cons_zero, List.set_cons_succ])
                refine wpQuiet_step_h hlq ?_
                clear hlq lq
                intro K lq hlq hK
                refine wanted_go (by rfl) ?_
                refine ⟨.int .u8 y, fun W hW => ?_, ?_⟩
                · skip
                  rw [← hy2.out]; exact quiet_load 5 _ rfl rfl (ldAi (i := 2 * j + 1) (by omega) (hW.all.get 0 (x := (w.heap.size, oA a)) rfl) Ha.out)
                refine hK _ ?_
                clear hK K
                (try simp only [Act.put, List.setIfInBounds_toArray, List.set_cons_zero, List.set_cons_succ])
                refine wpQuiet_step_h hlq ?_
                clear hlq lq
                intro K lq hlq hK
                refine wanted_go (by rfl) ?_
                refine ⟨?_, fun W hW => ?_, ?_⟩
                rotate_left
                · skip
                  go_simp
                  with_reducible rfl
                refine hK _ ?_
                clear hK K
                (try simp only [Act.put, List.setIfInBounds_toArray, List.set_cons_zero, List.set_cons_succ])
                refine wpQuiet_step_h hlq ?_
                clear hlq lq
                intro K lq hlq hK
                refine wanted_go (by rfl) ?_
                refine ⟨?_, fun W hW => ?_, ?_⟩
                rotate_left
                · skip
                  go_simp
                  with_reducible rfl
                refine hK _ ?_
                clear hK K
                (try simp only [Act.put, List.setIfInBounds_toArray, List.set_cons_zero, List.set_cons_succ])
                refine wpQuiet_step_h hlq ?_
                clear hlq lq
                intro K lq hlq hK
                refine wanted_go (by rfl) ?_
                refine ⟨.string ⟨(hexI (x * 256 + y)).toArray⟩, fun W hW => ?_, ?_⟩
                · go_simp
                  exact (hexes_call (by omega) (by omega)).mono fun e W2 hc2 => ⟨hc2.1, hW.go hc2.2⟩
                refine hK _ ?_
                clear hK K
                (try simp only [Act.put, List.setIfInBounds_toArray, List.set_cons_zero, List.set_cons_succ])
                refine wpQuiet_step_h hlq ?_
                clear hlq lq
                intro K lq hlq hK
                refine wanted_go (by rfl) ?_
                refine ⟨.string ((O ++ (⟨#[58]⟩ : ByteArray)) ++ ⟨(hexI (x * 256 + y)).toArray⟩), fun W hW => ?_, ?_⟩
                · skip
                  exact quiet_add rfl rfl rfl (ba_add W _ _ hsum.out)
                refine hK _ ?_
                clear hK K
                (try simp only [Act.put, List.setIfInBounds_toArray, List.set_cons_zero, List.set_cons_succ])
                refine wpQuiet_step_h hlq ?_
                clear hlq lq
                intro K lq hlq hK
                refine wanted_go (by rfl) ?_
                refine ⟨?_, fun W hW => ?_, ?_⟩
                rotate_left
                · skip
                  go_simp
                  with_reducible rfl
                refine hK _ ?_
                clear hK K
                (try simp only [Act.put, List.setIfInBounds_toArray, List.set_cons_zero, List.set_cons_succ])
                refine wpQuiet_nil_h hlq ?_
                clear hlq lq bx
                intro V1 hV2
                go_wp2_with fail
                refine ⟨⟨j + 1, _, by omega, nxt, by congr 1, rfl, kk, hV2⟩, by simp [intOf]; omega⟩
        · obtain rfl : j = 8 := by omega
          rw [hO.out, hall.out]
          go_wp2
          go_ret
          exact ⟨rfl, bx.bel⟩
end Go.Proofs.YtnljjlaececnkaaGreatDoor
/-
  PrintPrefix, Specific, PrintPair. Condition: the variables hold what their initialisers laid.
-/
namespace Go.Proofs.YtnljjlaececnkaaGreatDoor
open Go.RowKit
set_option linter.unusedVariables false
set_option linter.unusedSimpArgs false
theorem chk_call {w : World} {p : Pf} (hp : p.ok) {n : Int} (h : (if chk p then (0 : Int) else 21) = n) : Calls Tryz.prog 38 #[vPf p] w fun e w' => e = .returned (.int .i64 n) ∧ Below w.heap.size w w' := (check_any hp).mono fun e w' h' => ⟨by rw [h'.1, ← h]; rfl, h'.2⟩
theorem chkPP_call {w : World} {p : Pr} (hp : p.fit) {n : Int} (h : (if chkPP p then (0 : Int) else 21) = n) : Calls Tryz.prog 60 #[vPP p] w fun e w' => e = .returned (.int .i64 n) ∧ Below w.heap.size w w' := (chkPP_any hp).mono fun e w' h' => ⟨by rw [h'.1, ← h]; rfl, h'.2⟩
theorem pfam_call {w : World} {p : Pf} (hp : p.ok) {n : Int} (h : pfam p = n) : Calls Tryz.prog 54 #[vPf p] w fun e w' => e = .returned (.int .i64 n) ∧ Below w.heap.size w w' := (pfam_any hp).mono fun e w' h' => ⟨by rw [h'.1, h], h'.2⟩
theorem grouped_len {a : List Int} (ha : isA a) : (groupedS a).length ≤ 100 := by rw [← outAt_all]; exact groupedS_len ha 8 (Nat.le_refl _)
theorem dotted_len {a : List Int} (ha : isA a) : (dottedS a).length ≤ 100 := by
  rw [dotted_getD ha]
  obtain ⟨x, -, hx, x0, x1⟩ := isA_getD ha (j := 12) (by decide)
  obtain ⟨y, -, hy, y0, y1⟩ := isA_getD ha (j := 13) (by decide)
  obtain ⟨z, -, hz, z0, z1⟩ := isA_getD ha (j := 14) (by decide)
  obtain ⟨t, -, ht, t0, t1⟩ := isA_getD ha (j := 15) (by decide)
  rw [hx, hy, hz, ht]
  have lx := itoa_len x x0 (by omega)
  have ly := itoa_len y y0 (by omega)
  have lz := itoa_len z z0 (by omega)
  have lt := itoa_len t t0 (by omega)
  simp; omega
theorem pfx_len {p : Pf} (hp : isA p.a) : (pfxS p).length ≤ 130 := by
  cases h : chk p with
  | false => rw [pfx_no h]; simp
  | true =>
    obtain ⟨h0, h1⟩ := chk_rng h
    rw [pfx_yes h]
    split
    · rename_i h4
      have := dotted_len hp
      have := itoa_len (p.n - 96) (by have := (pfam4 h4).1; omega) (by omega)
      simp; omega
    · have := grouped_len hp
      have := itoa_len p.n h0 (by omega)
      simp; omega
theorem pfam_or (p : Pf) : pfam p = 4 ∨ pfam p = 6 := by
  unfold pfam
  split
  · exact .inr rfl
  · exact fam_or p.a
set_option maxRecDepth 100000 in
set_option maxHeartbeats 1600000 in
theorem pfx_4 {w : World} (E : Env w) {p : Pf} (hp : p.ok) (hc : chk p = true) (h4 : pfam p = 4) : Calls Tryz.prog 57 #[vPf p] w fun e w' => e = .returned (.string ⟨(pfxS p).toArray⟩) ∧ Below w.heap.size w w' := by
  have hr : pfxS p = dottedS p.a ++ [47] ++ Lib.itoa (p.n - 96) := by rw [pfx_yes hc, if_pos h4]; simp
  have B := ((Bz.start w).alloc (oP p) rfl : Bz w [(w.heap.size, oP p)] _)
  have Hp := Lib.hid hp
  have c1 : (if chk p then (0 : Int) else 21) = 0 := by rw [hc]; rfl
  obtain ⟨n0, n1⟩ := chk_rng hc
  have n2 := (pfam4 h4).1
  have l0 := dotted_len hp.1
  have l1 := itoa_len (p.n - 96) (by omega) (by omega)
  have s1 : (dottedS p.a).length + ([47] : List UInt8).length ≤ 9223372036854775807 := by simp; omega
  have s2 : (dottedS p.a ++ [47]).length + (Lib.itoa (p.n - 96)).length ≤ 9223372036854775807 := by simp; omega
  have w1 : IntKind.i64.wrap (p.n - 96) = p.n - 96 := IntWalk.i64_in _ (by omega)
  replace hr := Lib.hid hr
  replace c1 := Lib.hid c1
  replace h4 := Lib.hid h4
  replace s1 := Lib.hid s1
  replace s2 := Lib.hid s2
  clear hp hc l0 l1
  unfold vPf
  go_enter Tryz.func57, Tryz.ntmps57
  go_wp2_with (refine wpList_quiet (C := Bz w [(w.heap.size, oP p)]) 3 (by rfl) B ?_)
  refine wpQuiet_hide ?_
  intro lq hlq
  refine wpQuiet_step_h hlq ?_
  clear hlq lq
  intro K lq hlq hK
  refine wanted_go (by rfl) ?_
  refine ⟨vPf p, fun W hW => ?_, ?_⟩
  · skip
    exact quiet_load 55 _ rfl rfl (ldP (hW.all.get 0 (x := (w.heap.size, oP p)) rfl) Hp.out)
  refine hK _ ?_
  clear hK K
  (try simp only [Act.put, List.setIfInBounds_toArray, List.set_cons_zero, List.set_cons_succ])
  refine wpQuiet_step_h hlq ?_
  clear hlq lq
  intro K lq hlq hK
  refine wanted_go (by rfl) ?_
  refine ⟨.int .i64 0, fun W hW => ?_, ?_⟩
  · go_simp
    exact (chk_call Hp.out c1.out).mono fun e W2 hc2 => ⟨hc2.1, hW.go hc2.2⟩
  refine hK _ ?_
  clear hK K
  (try simp only [Act.put, List.setIfInBounds_toArray, List.set_cons_zero, List.set_cons_succ])
  refine wpQuiet_step_h hlq ?_
  clear hlq lq
  intro K lq hlq hK
  refine wanted_go (by rfl) ?_
  refine ⟨?_, fun W hW => ?_, ?_⟩
  rotate_left
  · skip
    go_simp
    with_reducible rfl
  refine hK _ ?_
  clear hK K
  (try simp only [Act.put, List.setIfInBounds_toArray, List.set_cons_zero, List.set_cons_succ])
  refine wpQuiet_nil_h hlq ?_
  clear hlq lq B
  intro V1 hV2
  go_wp2_with (refine wpList_quiet (C := Bz w [(w.heap.size, oP p)]) 3 (by rfl) hV2 ?_)
  refine wpQuiet_hide ?_
  intro lq hlq
  refine wpQuiet_step_h hlq ?_
  clear hlq lq
  intro K lq hlq hK
  refine wanted_go (by rfl) ?_
  refine ⟨vPf p, fun W hW => ?_, ?_⟩
  · skip
    exact quiet_load 55 _ rfl rfl (ldP (hW.all.get 0 (x := (w.heap.size, oP p)) rfl) Hp.out)
  refine hK _ ?_
  clear hK K
  (try simp only [Act.put, List.setIfInBounds_toArray, List.set_cons_zero, List.set_cons_succ])
  refine wpQuiet_step_h hlq ?_
  clear hlq lq
  intro K lq hlq hK
  refine wanted_go (by rfl) ?_
  refine ⟨.int .i64 4, fun W hW => ?_, ?_⟩
  · go_simp
    exact (pfam_call Hp.out h4.out).mono fun e W2 hc2 => ⟨hc2.1, hW.go hc2.2⟩
  refine hK _ ?_
  clear hK K
  (try simp only [Act.put, List.setIfInBounds_toArray, List.set_cons_zero, List.set_cons_succ])
  refine wpQuiet_step_h hlq ?_
  clear hlq lq
  intro K lq hlq hK
  refine wanted_go (by rfl) ?_
  refine ⟨?_, fun W hW => ?_, ?_⟩
  rotate_left
  · skip
    go_simp
    with_reducible rfl
  refine hK _ ?_
  clear hK K
  (try simp only [Act.put, List.setIfInBounds_toArray, List.set_cons_zero, List.set_cons_succ])
  refine wpQuiet_nil_h hlq ?_
  clear hlq lq hV2
  intro V3 hV4
  go_wp2_with fail
  refine wp_region_C (C := Bz w [(w.heap.size, oP p)]) (by kernel_rfl) (by kernel_rfl) (hV4.drew) ?_
  refine wpQuiet_hide ?_
  intro lq hlq
  refine wpQuiet_step_h hlq ?_
  clear hlq lq
  intro K lq hlq hK
  refine wanted_go (by rfl) ?_
  refine ⟨?_, fun W hW => ?_, ?_⟩
  rotate_left
  · skip
    go_simp
    with_reducible rfl
  refine hK _ ?_
  clear hK K
  (try simp only [Act.put, List.setIfInBounds_toArray, List.set_cons_zero, List.set_cons_succ])
  refine wpQuiet_step_h hlq ?_
  clear hlq lq
  intro K lq hlq hK
  refine wanted_go (by rfl) ?_
  refine ⟨vA p.a, fun W hW => ?_, ?_⟩
  · skip
    exact quiet_load 42 _ rfl rfl (ldPa (hW.all.get 0 (x := (w.heap.size, oP p)) rfl) Hp.out)
  refine hK _ ?_
  clear hK K
  (try simp only [Act.put, List.setIfInBounds_toArray, List.set_cons_zero, List.set_cons_succ])
  refine wpQuiet_step_h hlq ?_
  clear hlq lq
  intro K lq hlq hK
  refine wanted_go (by rfl) ?_
  refine ⟨.string ⟨(dottedS p.a).toArray⟩, fun W hW => ?_, ?_⟩
  · go_simp
    have E' := hW.env E
    exact (dotted_any E' Hp.out.1).mono fun e W2 hc2 => ⟨hc2.1, hW.go hc2.2⟩
  refine hK _ ?_
  clear hK K
  (try simp only [Act.put, List.setIfInBounds_toArray, List.set_cons_zero, List.set_cons_succ])
  refine wpQuiet_step_h hlq ?_
  clear hlq lq
  intro K lq hlq hK
  refine wanted_go (by rfl) ?_
  refine ⟨.string ⟨(dottedS p.a ++ [47]).toArray⟩, fun W hW => ?_, ?_⟩
  · skip
    exact quiet_add rfl rfl rfl (str_add W _ _ s1.out)
  refine hK _ ?_
  clear hK K
  (try simp only [Act.put, List.setIfInBounds_toArray, List.set_cons_zero, List.set_cons_succ])
  refine wpQuiet_step_h hlq ?_
  clear hlq lq
  intro K lq hlq hK
  refine wanted_go (by rfl) ?_
  refine ⟨?_, fun W hW => ?_, ?_⟩
  rotate_left
  · skip
    go_simp
    with_reducible rfl
  refine hK _ ?_
  clear hK K
  (try simp only [Act.put, List.setIfInBounds_toArray, List.set_cons_zero, List.set_cons_succ])
  refine wpQuiet_step_h hlq ?_
  clear hlq lq
  intro K lq hlq hK
  refine wanted_go (by rfl) ?_
  refine ⟨.int .i64 p.n, fun W hW => ?_, ?_⟩
  · skip
    exact quiet_load 3 _ rfl rfl (ldPn (hW.all.get 0 (x := (w.heap.size, oP p)) rfl) Hp.out)
  refine hK _ ?_
  clear hK K
  (try simp only [Act.put, List.setIfInBounds_toArray, List.set_cons_zero, List.set_cons_succ])
  refine wpQuiet_step_h hlq ?_
  clear hlq lq
  intro K lq hlq hK
  refine wanted_go (by rfl) ?_
  refine ⟨?_, fun W hW => ?_, ?_⟩
  rotate_left
  · skip
    go_simp
    with_reducible rfl
  refine hK _ ?_
  clear hK K
  (try simp only [Act.put, List.setIfInBounds_toArray, List.set_cons_zero, List.set_cons_succ])
  refine wpQuiet_step_h hlq ?_
  clear hlq lq
  intro K lq hlq hK
  refine wanted_go (by rfl) ?_
  refine ⟨.string ⟨(Lib.itoa (p.n - 96)).toArray⟩, fun W hW => ?_, ?_⟩
  · go_simp
    have E' := hW.env E
    exact (itoa_call E' (by omega) (by omega)).mono fun e W2 hc2 => ⟨hc2.1, hW.go hc2.2⟩
  refine hK _ ?_
  clear hK K
  (try simp only [Act.put, List.setIfInBounds_toArray, List.set_cons_zero, List.set_cons_succ])
  refine wpQuiet_step_h hlq ?_
  clear hlq lq
  intro K lq hlq hK
  refine wanted_go (by rfl) ?_
  refine ⟨.string ⟨(dottedS p.a ++ [47] ++ Lib.itoa (p.n - 96)).toArray⟩, fun W hW => ?_, ?_⟩
  · skip
    exact quiet_add rfl rfl rfl (str_add W _ _ s2.out)
  refine hK _ ?_
  clear hK K
  (try simp only [Act.put, List.setIfInBounds_toArray, List.set_cons_zero, List.set_cons_succ])
  refine wpQuiet_step_h hlq ?_
  clear hlq lq
  intro K lq hlq hK
  refine wanted_go (by rfl) ?_
  refine ⟨?_, fun W hW => ?_, ?_⟩
  rotate_left
  · skip
    go_simp
    with_reducible rfl
  refine hK _ ?_
  clear hK K
  (try simp only [Act.put, List.setIfInBounds_toArray, List.set_cons_zero, List.set_cons_succ])
  refine wpQuiet_nil_h hlq ?_
  clear hlq lq hV4
  intro V5 hV6
  go_wp2_with fail
  go_ret
  exact ⟨congrArg (fun l : List UInt8 => Ending.returned (.string ⟨l.toArray⟩)) (show dottedS p.a ++ 47 :: Lib.itoa (p.n - 96) = pfxS p by rw [hr.out]; simp), hV6.bel⟩
set_option maxRecDepth 100000 in
set_option maxHeartbeats 1600000 in
theorem pfx_6 {w : World} (E : Env w) {p : Pf} (hp : p.ok) (hc : chk p = true) (h6 : pfam p = 6) : Calls Tryz.prog 57 #[vPf p] w fun e w' => e = .returned (.string ⟨(pfxS p).toArray⟩) ∧ Below w.heap.size w w' := by
  have hr : pfxS p = groupedS p.a ++ [47] ++ Lib.itoa p.n := by rw [pfx_yes hc, if_neg (by omega)]; simp
  have B := ((Bz.start w).alloc (oP p) rfl : Bz w [(w.heap.size, oP p)] _)
  have Hp := Lib.hid hp
  have c1 : (if chk p then (0 : Int) else 21) = 0 := by rw [hc]; rfl
  obtain ⟨n0, n1⟩ := chk_rng hc
  have l0 := grouped_len hp.1
  have l1 := itoa_len p.n (by omega) (by omega)
  have s1 : (groupedS p.a).length + ([47] : List UInt8).length ≤ 9223372036854775807 := by simp; omega
  have s2 : (groupedS p.a ++ [47]).length + (Lib.itoa p.n).length ≤ 9223372036854775807 := by simp; omega
  replace hr := Lib.hid hr
  replace c1 := Lib.hid c1
  replace h6 := Lib.hid h6
  replace s1 := Lib.hid s1
  replace s2 := Lib.hid s2
  clear hp hc l0 l1
  unfold vPf
  go_enter Tryz.func57, Tryz.ntmps57
  go_wp2_with (refine wpList_quiet (C := Bz w [(w.heap.size, oP p)]) 3 (by rfl) B ?_)
  refine wpQuiet_hide ?_
  intro lq hlq
  refine wpQuiet_step_h hlq ?_
  clear hlq lq
  intro K lq hlq hK
  refine wanted_go (by rfl) ?_
  refine ⟨vPf p, fun W hW => ?_, ?_⟩
  · skip
    exact quiet_load 55 _ rfl rfl (ldP (hW.all.get 0 (x := (w.heap.size, oP p)) rfl) Hp.out)
  refine hK _ ?_
  clear hK K
  (try simp only [Act.put, List.setIfInBounds_toArray, List.set_cons_zero, List.set_cons_succ])
  refine wpQuiet_step_h hlq ?_
  clear hlq lq
  intro K lq hlq hK
  refine wanted_go (by rfl) ?_
  refine ⟨.int .i64 0, fun W hW => ?_, ?_⟩
  · go_simp
    exact (chk_call Hp.out c1.out).mono fun e W2 hc2 => ⟨hc2.1, hW.go hc2.2⟩
  refine hK _ ?_
  clear hK K
  (try simp only [Act.put, List.setIfInBounds_toArray, List.set_cons_zero, List.set_cons_succ])
  refine wpQuiet_step_h hlq ?_
  clear hlq lq
  intro K lq hlq hK
  refine wanted_go (by rfl) ?_
  refine ⟨?_, fun W hW => ?_, ?_⟩
  rotate_left
  · skip
    go_simp
    with_reducible rfl
  refine hK _ ?_
  clear hK K
  (try simp only [Act.put, List.setIfInBounds_toArray, List.set_cons_zero, List.set_cons_succ])
  refine wpQuiet_nil_h hlq ?_
  clear hlq lq B
  intro V1 hV2
  go_wp2_with (refine wpList_quiet (C := Bz w [(w.heap.size, oP p)]) 3 (by rfl) hV2 ?_)
  refine wpQuiet_hide ?_
  intro lq hlq
  refine wpQuiet_step_h hlq ?_
  clear hlq lq
  intro K lq hlq hK
  refine wanted_go (by rfl) ?_
  refine ⟨vPf p, fun W hW => ?_, ?_⟩
  · skip
    exact quiet_load 55 _ rfl rfl (ldP (hW.all.get 0 (x := (w.heap.size, oP p)) rfl) Hp.out)
  refine hK _ ?_
  clear hK K
  (try simp only [Act.put, List.setIfInBounds_toArray, List.set_cons_zero, List.set_cons_succ])
  refine wpQuiet_step_h hlq ?_
  clear hlq lq
  intro K lq hlq hK
  refine wanted_go (by rfl) ?_
  refine ⟨.int .i64 6, fun W hW => ?_, ?_⟩
  · go_simp
    exact (pfam_call Hp.out h6.out).mono fun e W2 hc2 => ⟨hc2.1, hW.go hc2.2⟩
  refine hK _ ?_
  clear hK K
  (try simp only [Act.put, List.setIfInBounds_toArray, List.set_cons_zero, List.set_cons_succ])
  refine wpQuiet_step_h hlq ?_
  clear hlq lq
  intro K lq hlq hK
  refine wanted_go (by rfl) ?_
  refine ⟨?_, fun W hW => ?_, ?_⟩
  rotate_left
  · skip
    go_simp
    with_reducible rfl
  refine hK _ ?_
  clear hK K
  (try simp only [Act.put, List.setIfInBounds_toArray, List.set_cons_zero, List.set_cons_succ])
  refine wpQuiet_nil_h hlq ?_
  clear hlq lq hV2
  intro V3 hV4
  go_wp2_with fail
  refine wp_region_C (C := Bz w [(w.heap.size, oP p)]) (by kernel_rfl) (by kernel_rfl) (hV4.drew) ?_
  refine wpQuiet_hide ?_
  intro lq hlq
  refine wpQuiet_step_h hlq ?_
  clear hlq lq
  intro K lq hlq hK
  refine wanted_go (by rfl) ?_
  refine ⟨?_, fun W hW => ?_, ?_⟩
  rotate_left
  · skip
    go_simp
    with_reducible rfl
  refine hK _ ?_
  clear hK K
  (try simp only [Act.put, List.setIfInBounds_toArray, List.set_cons_zero, List.set_cons_succ])
  refine wpQuiet_step_h hlq ?_
  clear hlq lq
  intro K lq hlq hK
  refine wanted_go (by rfl) ?_
  refine ⟨vA p.a, fun W hW => ?_, ?_⟩
  · skip
    exact quiet_load 42 _ rfl rfl (ldPa (hW.all.get 0 (x := (w.heap.size, oP p)) rfl) Hp.out)
  refine hK _ ?_
  clear hK K
  (try simp only [Act.put, List.setIfInBounds_toArray, List.set_cons_zero, List.set_cons_succ])
  refine wpQuiet_step_h hlq ?_
  clear hlq lq
  intro K lq hlq hK
  refine wanted_go (by rfl) ?_
  refine ⟨.string ⟨(groupedS p.a).toArray⟩, fun W hW => ?_, ?_⟩
  · go_simp
    have E' := hW.env E
    exact (grouped_any E' Hp.out.1).mono fun e W2 hc2 => ⟨hc2.1, hW.go hc2.2⟩
  refine hK _ ?_
  clear hK K
  (try simp only [Act.put, List.setIfInBounds_toArray, List.set_cons_zero, List.set_cons_succ])
  refine wpQuiet_step_h hlq ?_
  clear hlq lq
  intro K lq hlq hK
  refine wanted_go (by rfl) ?_
  refine ⟨.string ⟨(groupedS p.a ++ [47]).toArray⟩, fun W hW => ?_, ?_⟩
  · skip
    exact quiet_add rfl rfl rfl (str_add W _ _ s1.out)
  refine hK _ ?_
  clear hK K
  (try simp only [Act.put, List.setIfInBounds_toArray, List.set_cons_zero, List.set_cons_succ])
  refine wpQuiet_step_h hlq ?_
  clear hlq lq
  intro K lq hlq hK
  refine wanted_go (by rfl) ?_
  refine ⟨?_, fun W hW => ?_, ?_⟩
  rotate_left
  · skip
    go_simp
    with_reducible rfl
  refine hK _ ?_
  clear hK K
  (try simp only [Act.put, List.setIfInBounds_toArray, List.set_cons_zero, List.set_cons_succ])
  refine wpQuiet_step_h hlq ?_
  clear hlq lq
  intro K lq hlq hK
  refine wanted_go (by rfl) ?_
  refine ⟨.int .i64 p.n, fun W hW => ?_, ?_⟩
  · skip
    exact quiet_load 3 _ rfl rfl (ldPn (hW.all.get 0 (x := (w.heap.size, oP p)) rfl) Hp.out)
  refine hK _ ?_
  clear hK K
  (try simp only [Act.put, List.setIfInBounds_toArray, List.set_cons_zero, List.set_cons_succ])
  refine wpQuiet_step_h hlq ?_
  clear hlq lq
  intro K lq hlq hK
  refine wanted_go (by rfl) ?_
  refine ⟨.string ⟨(Lib.itoa p.n).toArray⟩, fun W hW => ?_, ?_⟩
  · go_simp
    have E' := hW.env E
    exact (itoa_call E' (by omega) (by omega)).mono fun e W2 hc2 => ⟨hc2.1, hW.go hc2.2⟩
  refine hK _ ?_
  clear hK K
  (try simp only [Act.put, List.setIfInBounds_toArray, List.set_cons_zero, List.set_cons_succ])
  refine wpQuiet_step_h hlq ?_
  clear hlq lq
  intro K lq hlq hK
  refine wanted_go (by rfl) ?_
  refine ⟨.string ⟨(groupedS p.a ++ [47] ++ Lib.itoa p.n).toArray⟩, fun W hW => ?_, ?_⟩
  · skip
    exact quiet_add rfl rfl rfl (str_add W _ _ s2.out)
  refine hK _ ?_
  clear hK K
  (try simp only [Act.put, List.setIfInBounds_toArray, List.set_cons_zero, List.set_cons_succ])
  refine wpQuiet_step_h hlq ?_
  clear hlq lq
  intro K lq hlq hK
  refine wanted_go (by rfl) ?_
  refine ⟨?_, fun W hW => ?_, ?_⟩
  rotate_left
  · skip
    go_simp
    with_reducible rfl
  refine hK _ ?_
  clear hK K
  (try simp only [Act.put, List.setIfInBounds_toArray, List.set_cons_zero, List.set_cons_succ])
  refine wpQuiet_nil_h hlq ?_
  clear hlq lq hV4
  intro V5 hV6
  go_wp2_with fail
  go_ret
  exact ⟨congrArg (fun l : List UInt8 => Ending.returned (.string ⟨l.toArray⟩)) (show groupedS p.a ++ 47 :: Lib.itoa p.n = pfxS p by rw [hr.out]; simp), hV6.bel⟩
set_option maxRecDepth 100000 in
set_option maxHeartbeats 1600000 in
theorem pfx_bad {w : World} {p : Pf} (hp : p.ok) (hc : chk p = false) : Calls Tryz.prog 57 #[vPf p] w fun e w' => e = .returned (.string ⟨(pfxS p).toArray⟩) ∧ Below w.heap.size w w' := by
  have hr := Lib.hid (pfx_no hc)
  have B := ((Bz.start w).alloc (oP p) rfl : Bz w [(w.heap.size, oP p)] _)
  have Hp := Lib.hid hp
  have c1 : (if chk p then (0 : Int) else 21) = 21 := by rw [hc]; rfl
  replace c1 := Lib.hid c1
  clear hp hc
  unfold vPf
  go_enter Tryz.func57, Tryz.ntmps57
  go_wp2_with (refine wpList_quiet (C := Bz w [(w.heap.size, oP p)]) 3 (by rfl) B ?_)
  refine wpQuiet_hide ?_
  intro lq hlq
  refine wpQuiet_step_h hlq ?_
  clear hlq lq
  intro K lq hlq hK
  refine wanted_go (by rfl) ?_
  refine ⟨vPf p, fun W hW => ?_, ?_⟩
  · skip
    exact quiet_load 55 _ rfl rfl (ldP (hW.all.get 0 (x := (w.heap.size, oP p)) rfl) Hp.out)
  refine hK _ ?_
  clear hK K
  (try simp only [Act.put, List.setIfInBounds_toArray, List.set_cons_zero, List.set_cons_succ])
  refine wpQuiet_step_h hlq ?_
  clear hlq lq
  intro K lq hlq hK
  refine wanted_go (by rfl) ?_
  refine ⟨.int .i64 21, fun W hW => ?_, ?_⟩
  · go_simp
    exact (chk_call Hp.out c1.out).mono fun e W2 hc2 => ⟨hc2.1, hW.go hc2.2⟩
  refine hK _ ?_
  clear hK K
  (try simp only [Act.put, List.setIfInBounds_toArray, List.set_cons_zero, List.set_cons_succ])
  refine wpQuiet_step_h hlq ?_
  clear hlq lq
  intro K lq hlq hK
  refine wanted_go (by rfl) ?_
  refine ⟨?_, fun W hW => ?_, ?_⟩
  rotate_left
  · skip
    go_simp
    with_reducible rfl
  refine hK _ ?_
  clear hK K
  (try simp only [Act.put, List.setIfInBounds_toArray, List.set_cons_zero, List.set_cons_succ])
  refine wpQuiet_nil_h hlq ?_
  clear hlq lq B
  intro V1 hV2
  go_wp2_with fail
  go_ret
  exact ⟨by rw [hr.out]; rfl, hV2.bel⟩
/-- PrintPrefix. -/
theorem pfx_any {w : World} (E : Env w) {p : Pf} (hp : p.ok) : Calls Tryz.prog 57 #[vPf p] w fun e w' => e = .returned (.string ⟨(pfxS p).toArray⟩) ∧ Below w.heap.size w w' := by
  cases hc : chk p with
  | false => exact pfx_bad hp hc
  | true =>
    rcases pfam_or p with h | h
    · exact pfx_4 E hp hc h
    · exact pfx_6 E hp hc h
/-- Does it matter where packets come from? -/
def spec (q : Pr) : Bool := !decide (q.s = anyP (pfam q.s))
set_option maxRecDepth 100000 in
set_option maxHeartbeats 1600000 in
theorem spec_any {w : World} {q : Pr} (hq : q.fit) : Calls Tryz.prog 125 #[vPP q] w fun e w' => e = .returned (.bool (spec q)) ∧ Below w.heap.size w w' := by
  have B := ((Bz.start w).alloc (oPP q) rfl : Bz w [(w.heap.size, oPP q)] _)
  obtain ⟨f, hf⟩ : ∃ f, pfam q.s = f := ⟨_, rfl⟩
  have hz := fun W => neq_P W hq.2 (any_ok f)
  obtain ⟨b, hb⟩ : ∃ b, spec q = b := ⟨_, rfl⟩
  have hb2 : (!decide (q.s = anyP f)) = b := by rw [← hb, ← hf]; rfl
  rw [hb2] at hz
  rw [hb]
  have Hq := Lib.hid hq
  replace hf := Lib.hid hf
  clear hb hb2 hq
  unfold vPP
  go_enter Tryz.func125, Tryz.ntmps125
  go_wp2_with fail
  refine wp_region_C (C := Bz w [(w.heap.size, oPP q)]) (by kernel_rfl) (by kernel_rfl) (B.drew) ?_
  refine wpQuiet_hide ?_
  intro lq hlq
  refine wpQuiet_step_h hlq ?_
  clear hlq lq
  intro K lq hlq hK
  refine wanted_go (by rfl) ?_
  refine ⟨?_, fun W hW => ?_, ?_⟩
  rotate_left
  · skip
    go_simp
    with_reducible rfl
  refine hK _ ?_
  clear hK K
  (try simp only [Act.put, List.setIfInBounds_toArray, List.set_cons_zero, List.set_cons_succ])
  refine wpQuiet_step_h hlq ?_
  clear hlq lq
  intro K lq hlq hK
  refine wanted_go (by rfl) ?_
  refine ⟨vPf q.s, fun W hW => ?_, ?_⟩
  · skip
    exact quiet_load 55 _ rfl rfl (ldPPs (hW.all.get 0 (x := (w.heap.size, oPP q)) rfl) Hq.out)
  refine hK _ ?_
  clear hK K
  (try simp only [Act.put, List.setIfInBounds_toArray, List.set_cons_zero, List.set_cons_succ])
  refine wpQuiet_step_h hlq ?_
  clear hlq lq
  intro K lq hlq hK
  refine wanted_go (by rfl) ?_
  refine ⟨?_, fun W hW => ?_, ?_⟩
  rotate_left
  · skip
    go_simp
    with_reducible rfl
  refine hK _ ?_
  clear hK K
  (try simp only [Act.put, List.setIfInBounds_toArray, List.set_cons_zero, List.set_cons_succ])
  refine wpQuiet_step_h hlq ?_
  clear hlq lq
  intro K lq hlq hK
  refine wanted_go (by rfl) ?_
  refine ⟨vPf q.s, fun W hW => ?_, ?_⟩
  · skip
    exact quiet_load 55 _ rfl rfl (ldPPs (hW.all.get 0 (x := (w.heap.size, oPP q)) rfl) Hq.out)
  refine hK _ ?_
  clear hK K
  (try simp only [Act.put, List.setIfInBounds_toArray, List.set_cons_zero, List.set_cons_succ])
  refine wpQuiet_step_h hlq ?_
  clear hlq lq
  intro K lq hlq hK
  refine wanted_go (by rfl) ?_
  refine ⟨.int .i64 f, fun W hW => ?_, ?_⟩
  · go_simp
    exact (pfam_call Hq.out.2 hf.out).mono fun e W2 hc2 => ⟨hc2.1, hW.go hc2.2⟩
  refine hK _ ?_
  clear hK K
  (try simp only [Act.put, List.setIfInBounds_toArray, List.set_cons_zero, List.set_cons_succ])
  refine wpQuiet_step_h hlq ?_
  clear hlq lq
  intro K lq hlq hK
  refine wanted_go (by rfl) ?_
  refine ⟨vPf (anyP f), fun W hW => ?_, ?_⟩
  · go_simp
    exact (any_any f).mono fun e W2 hc2 => ⟨hc2.1, hW.go hc2.2⟩
  refine hK _ ?_
  clear hK K
  (try simp only [Act.put, List.setIfInBounds_toArray, List.set_cons_zero, List.set_cons_succ])
  refine wpQuiet_step_h hlq ?_
  clear hlq lq
  intro K lq hlq hK
  refine wanted_go (by rfl) ?_
  refine ⟨.bool b, fun W hW => ?_, ?_⟩
  · skip
    exact quiet_eq (.inr rfl) (by rfl) (by rfl) (by rfl) guard55 (hz W)
  refine hK _ ?_
  clear hK K
  (try simp only [Act.put, List.setIfInBounds_toArray, List.set_cons_zero, List.set_cons_succ])
  refine wpQuiet_step_h hlq ?_
  clear hlq lq
  intro K lq hlq hK
  refine wanted_go (by rfl) ?_
  refine ⟨?_, fun W hW => ?_, ?_⟩
  rotate_left
  · skip
    go_simp
    with_reducible rfl
  refine hK _ ?_
  clear hK K
  (try simp only [Act.put, List.setIfInBounds_toArray, List.set_cons_zero, List.set_cons_succ])
  refine wpQuiet_nil_h hlq ?_
  clear hlq lq B
  intro V1 hV2
  go_wp2_with fail
  go_ret
  exact ⟨rfl, hV2.bel⟩
/-- A pair's text. -/
def pairS (q : Pr) : List UInt8 := if chkPP q then (if spec q then pfxS q.d ++ ([32, 102, 114, 111, 109, 32] ++ pfxS q.s) else pfxS q.d) else []
theorem spec_call {w : World} {q : Pr} (hq : q.fit) {b : Bool} (h : spec q = b) : Calls Tryz.prog 125 #[vPP q] w fun e w' => e = .returned (.bool b) ∧ Below w.heap.size w w' := by rw [← h]; exact spec_any hq
set_option maxRecDepth 100000 in
set_option maxHeartbeats 1600000 in
theorem pair_bad {w : World} {q : Pr} (hq : q.fit) (hc : chkPP q = false) : Calls Tryz.prog 59 #[vPP q] w fun e w' => e = .returned (.string ⟨(pairS q).toArray⟩) ∧ Below w.heap.size w w' := by
  have hr : pairS q = [] := by unfold pairS; rw [hc]; rfl
  have B := ((Bz.start w).alloc (oPP q) rfl : Bz w [(w.heap.size, oPP q)] _)
  have Hq := Lib.hid hq
  have c1 : (if chkPP q then (0 : Int) else 21) = 21 := by rw [hc]; rfl
  replace c1 := Lib.hid c1
  replace hr := Lib.hid hr
  clear hq hc
  unfold vPP
  go_enter Tryz.func59, Tryz.ntmps59
  go_wp2_with (refine wpList_quiet (C := Bz w [(w.heap.size, oPP q)]) 3 (by rfl) B ?_)
  refine wpQuiet_hide ?_
  intro lq hlq
  refine wpQuiet_step_h hlq ?_
  clear hlq lq
  intro K lq hlq hK
  refine wanted_go (by rfl) ?_
  refine ⟨vPP q, fun W hW => ?_, ?_⟩
  · skip
    exact quiet_load 57 _ rfl rfl (ldPP (hW.all.get 0 (x := (w.heap.size, oPP q)) rfl) Hq.out)
  refine hK _ ?_
  clear hK K
  (try simp only [Act.put, List.setIfInBounds_toArray, List.set_cons_zero, List.set_cons_succ])
  refine wpQuiet_step_h hlq ?_
  clear hlq lq
  intro K lq hlq hK
  refine wanted_go (by rfl) ?_
  refine ⟨.int .i64 21, fun W hW => ?_, ?_⟩
  · go_simp
    exact (chkPP_call Hq.out c1.out).mono fun e W2 hc2 => ⟨hc2.1, hW.go hc2.2⟩
  refine hK _ ?_
  clear hK K
  (try simp only [Act.put, List.setIfInBounds_toArray, List.set_cons_zero, List.set_cons_succ])
  refine wpQuiet_step_h hlq ?_
  clear hlq lq
  intro K lq hlq hK
  refine wanted_go (by rfl) ?_
  refine ⟨?_, fun W hW => ?_, ?_⟩
  rotate_left
  · skip
    go_simp
    with_reducible rfl
  refine hK _ ?_
  clear hK K
  (try simp only [Act.put, List.setIfInBounds_toArray, List.set_cons_zero, List.set_cons_succ])
  refine wpQuiet_nil_h hlq ?_
  clear hlq lq B
  intro V1 hV2
  go_wp2_with fail
  go_ret
  exact ⟨by rw [hr.out]; rfl, hV2.bel⟩
set_option maxRecDepth 100000 in
set_option maxHeartbeats 1600000 in
theorem pair_plain {w : World} (E : Env w) {q : Pr} (hq : q.fit) (hc : chkPP q = true) (hs : spec q = false) : Calls Tryz.prog 59 #[vPP q] w fun e w' => e = .returned (.string ⟨(pairS q).toArray⟩) ∧ Below w.heap.size w w' := by
  have hr : pairS q = pfxS q.d := by unfold pairS; rw [hc, hs]; rfl
  have B := ((Bz.start w).alloc (oPP q) rfl : Bz w [(w.heap.size, oPP q)] _)
  have Hq := Lib.hid hq
  have c1 : (if chkPP q then (0 : Int) else 21) = 0 := by rw [hc]; rfl
  replace c1 := Lib.hid c1
  replace hr := Lib.hid hr
  replace hs := Lib.hid hs
  clear hq hc
  unfold vPP
  go_enter Tryz.func59, Tryz.ntmps59
  go_wp2_with (refine wpList_quiet (C := Bz w [(w.heap.size, oPP q)]) 3 (by rfl) B ?_)
  refine wpQuiet_hide ?_
  intro lq hlq
  refine wpQuiet_step_h hlq ?_
  clear hlq lq
  intro K lq hlq hK
  refine wanted_go (by rfl) ?_
  refine ⟨vPP q, fun W hW => ?_, ?_⟩
  · skip
    exact quiet_load 57 _ rfl rfl (ldPP (hW.all.get 0 (x := (w.heap.size, oPP q)) rfl) Hq.out)
  refine hK _ ?_
  clear hK K
  (try simp only [Act.put, List.setIfInBounds_toArray, List.set_cons_zero, List.set_cons_succ])
  refine wpQuiet_step_h hlq ?_
  clear hlq lq
  intro K lq hlq hK
  refine wanted_go (by rfl) ?_
  refine ⟨.int .i64 0, fun W hW => ?_, ?_⟩
  · go_simp
    exact (chkPP_call Hq.out c1.out).mono fun e W2 hc2 => ⟨hc2.1, hW.go hc2.2⟩
  refine hK _ ?_
  clear hK K
  (try simp only [Act.put, List.setIfInBounds_toArray, List.set_cons_zero, List.set_cons_succ])
  refine wpQuiet_step_h hlq ?_
  clear hlq lq
  intro K lq hlq hK
  refine wanted_go (by rfl) ?_
  refine ⟨?_, fun W hW => ?_, ?_⟩
  rotate_left
  · skip
    go_simp
    with_reducible rfl
  refine hK _ ?_
  clear hK K
  (try simp only [Act.put, List.setIfInBounds_toArray, List.set_cons_zero, List.set_cons_succ])
  refine wpQuiet_nil_h hlq ?_
  clear hlq lq B
  intro V1 hV2
  go_wp2_with (refine wpList_quiet (C := Bz w [(w.heap.size, oPP q)]) 4 (by rfl) hV2 ?_)
  refine wpQuiet_hide ?_
  intro lq hlq
  refine wpQuiet_step_h hlq ?_
  clear hlq lq
  intro K lq hlq hK
  refine wanted_go (by rfl) ?_
  refine ⟨?_, fun W hW => ?_, ?_⟩
  rotate_left
  · skip
    go_simp
    with_reducible rfl
  refine hK _ ?_
  clear hK K
  (try simp only [Act.put, List.setIfInBounds_toArray, List.set_cons_zero, List.set_cons_succ])
  refine wpQuiet_step_h hlq ?_
  clear hlq lq
  intro K lq hlq hK
  refine wanted_go (by rfl) ?_
  refine ⟨vPf q.d, fun W hW => ?_, ?_⟩
  · skip
    exact quiet_load 55 _ rfl rfl (ldPPd (hW.all.get 0 (x := (w.heap.size, oPP q)) rfl) Hq.out)
  refine hK _ ?_
  clear hK K
  (try simp only [Act.put, List.setIfInBounds_toArray, List.set_cons_zero, List.set_cons_succ])
  refine wpQuiet_step_h hlq ?_
  clear hlq lq
  intro K lq hlq hK
  refine wanted_go (by rfl) ?_
  refine ⟨.string ⟨(pfxS q.d).toArray⟩, fun W hW => ?_, ?_⟩
  · go_simp
    have E' := hW.env E
    exact (pfx_any E' Hq.out.1).mono fun e W2 hc2 => ⟨hc2.1, hW.go hc2.2⟩
  refine hK _ ?_
  clear hK K
  (try simp only [Act.put, List.setIfInBounds_toArray, List.set_cons_zero, List.set_cons_succ])
  refine wpQuiet_step_h hlq ?_
  clear hlq lq
  intro K lq hlq hK
  refine wanted_go (by rfl) ?_
  refine ⟨?_, fun W hW => ?_, ?_⟩
  rotate_left
  · skip
    go_simp
    with_reducible rfl
  refine hK _ ?_
  clear hK K
  (try simp only [Act.put, List.setIfInBounds_toArray, List.set_cons_zero, List.set_cons_succ])
  refine wpQuiet_nil_h hlq ?_
  clear hlq lq hV2
  intro V3 hV4
  go_wp2_with (refine wpList_quiet (C := Bz w [(w.heap.size, oPP q)]) 2 (by rfl) hV4 ?_)
  refine wpQuiet_hide ?_
  intro lq hlq
  refine wpQuiet_step_h hlq ?_
  clear hlq lq
  intro K lq hlq hK
  refine wanted_go (by rfl) ?_
  refine ⟨vPP q, fun W hW => ?_, ?_⟩
  · skip
    exact quiet_load 57 _ rfl rfl (ldPP (hW.all.get 0 (x := (w.heap.size, oPP q)) rfl) Hq.out)
  refine hK _ ?_
  clear hK K
  (try simp only [Act.put, List.setIfInBounds_toArray, List.set_cons_zero, List.set_cons_succ])
  refine wpQuiet_step_h hlq ?_
  clear hlq lq
  intro K lq hlq hK
  refine wanted_go (by rfl) ?_
  refine ⟨.bool false, fun W hW => ?_, ?_⟩
  · go_simp
    exact (spec_call Hq.out hs.out).mono fun e W2 hc2 => ⟨hc2.1, hW.go hc2.2⟩
  refine hK _ ?_
  clear hK K
  (try simp only [Act.put, List.setIfInBounds_toArray, List.set_cons_zero, List.set_cons_succ])
  refine wpQuiet_nil_h hlq ?_
  clear hlq lq hV4
  intro V5 hV6
  go_wp2_with fail
  go_ret
  exact ⟨by rw [hr.out]; rfl, hV6.bel⟩
set_option maxRecDepth 100000 in
set_option maxHeartbeats 1600000 in
theorem pair_from {w : World} (E : Env w) {q : Pr} (hq : q.fit) (hc : chkPP q = true) (hs : spec q = true) : Calls Tryz.prog 59 #[vPP q] w fun e w' => e = .returned (.string ⟨(pairS q).toArray⟩) ∧ Below w.heap.size w w' := by
  have hr : pairS q = pfxS q.d ++ ([32, 102, 114, 111, 109, 32] ++ pfxS q.s) := by unfold pairS; rw [hc, hs]; rfl
  have B := ((Bz.start w).alloc (oPP q) rfl : Bz w [(w.heap.size, oPP q)] _)
  have Hq := Lib.hid hq
  have c1 : (if chkPP q then (0 : Int) else 21) = 0 := by rw [hc]; rfl
  have l1 := pfx_len hq.1.1
  have l2 := pfx_len hq.2.1
  have s1 : ([32, 102, 114, 111, 109, 32] : List UInt8).length + (pfxS q.s).length ≤ 9223372036854775807 := by simp; omega
  have s2 : (pfxS q.d).length + ([32, 102, 114, 111, 109, 32] ++ pfxS q.s).length ≤ 9223372036854775807 := by simp; omega
  replace c1 := Lib.hid c1
  replace hr := Lib.hid hr
  replace hs := Lib.hid hs
  replace s1 := Lib.hid s1
  replace s2 := Lib.hid s2
  clear hq hc l1 l2
  unfold vPP
  go_enter Tryz.func59, Tryz.ntmps59
  go_wp2_with (refine wpList_quiet (C := Bz w [(w.heap.size, oPP q)]) 3 (by rfl) B ?_)
  refine wpQuiet_hide ?_
  intro lq hlq
  refine wpQuiet_step_h hlq ?_
  clear hlq lq
  intro K lq hlq hK
  refine wanted_go (by rfl) ?_
  refine ⟨vPP q, fun W hW => ?_, ?_⟩
  · skip
    exact quiet_load 57 _ rfl rfl (ldPP (hW.all.get 0 (x := (w.heap.size, oPP q)) rfl) Hq.out)
  refine hK _ ?_
  clear hK K
  (try simp only [Act.put, List.setIfInBounds_toArray, List.set_cons_zero, List.set_cons_succ])
  refine wpQuiet_step_h hlq ?_
  clear hlq lq
  intro K lq hlq hK
  refine wanted_go (by rfl) ?_
  refine ⟨.int .i64 0, fun W hW => ?_, ?_⟩
  · go_simp
    exact (chkPP_call Hq.out c1.out).mono fun e W2 hc2 => ⟨hc2.1, hW.go hc2.2⟩
  refine hK _ ?_
  clear hK K
  (try simp only [Act.put, List.setIfInBounds_toArray, List.set_cons_zero, List.set_cons_succ])
  refine wpQuiet_step_h hlq ?_
  clear hlq lq
  intro K lq hlq hK
  refine wanted_go (by rfl) ?_
  refine ⟨?_, fun W hW => ?_, ?_⟩
  rotate_left
  · skip
    go_simp
    with_reducible rfl
  refine hK _ ?_
  clear hK K
  (try simp only [Act.put, List.setIfInBounds_toArray, List.set_cons_zero, List.set_cons_succ])
  refine wpQuiet_nil_h hlq ?_
  clear hlq lq B
  intro V1 hV2
  go_wp2_with (refine wpList_quiet (C := Bz w [(w.heap.size, oPP q)]) 4 (by rfl) hV2 ?_)
  refine wpQuiet_hide ?_
  intro lq hlq
  refine wpQuiet_step_h hlq ?_
  clear hlq lq
  intro K lq hlq hK
  refine wanted_go (by rfl) ?_
  refine ⟨?_, fun W hW => ?_, ?_⟩
  rotate_left
  · skip
    go_simp
    with_reducible rfl
  refine hK _ ?_
  clear hK K
  (try simp only [Act.put, List.setIfInBounds_toArray, List.set_cons_zero, List.set_cons_succ])
  refine wpQuiet_step_h hlq ?_
  clear hlq lq
  intro K lq hlq hK
  refine wanted_go (by rfl) ?_
  refine ⟨vPf q.d, fun W hW => ?_, ?_⟩
  · skip
    exact quiet_load 55 _ rfl rfl (ldPPd (hW.all.get 0 (x := (w.heap.size, oPP q)) rfl) Hq.out)
  refine hK _ ?_
  clear hK K
  (try simp only [Act.put, List.setIfInBounds_toArray, List.set_cons_zero, List.set_cons_succ])
  refine wpQuiet_step_h hlq ?_
  clear hlq lq
  intro K lq hlq hK
  refine wanted_go (by rfl) ?_
  refine ⟨.string ⟨(pfxS q.d).toArray⟩, fun W hW => ?_, ?_⟩
  · go_simp
    have E' := hW.env E
    exact (pfx_any E' Hq.out.1).mono fun e W2 hc2 => ⟨hc2.1, hW.go hc2.2⟩
  refine hK _ ?_
  clear hK K
  (try simp only [Act.put, List.setIfInBounds_toArray, List.set_cons_zero, List.set_cons_succ])
  refine wpQuiet_step_h hlq ?_
  clear hlq lq
  intro K lq hlq hK
  refine wanted_go (by rfl) ?_
  refine ⟨?_, fun W hW => ?_, ?_⟩
  rotate_left
  · skip
    go_simp
    with_reducible rfl
  refine hK _ ?_
  clear hK K
  (try simp only [Act.put, List.setIfInBounds_toArray, List.set_cons_zero, List.set_cons_succ])
  refine wpQuiet_nil_h hlq ?_
  clear hlq lq hV2
  intro V3 hV4
  go_wp2_with (refine wpList_quiet (C := Bz w [(w.heap.size, oPP q)]) 2 (by rfl) hV4 ?_)
  refine wpQuiet_hide ?_
  intro lq hlq
  refine wpQuiet_step_h hlq ?_
  clear hlq lq
  intro K lq hlq hK
  refine wanted_go (by rfl) ?_
  refine ⟨vPP q, fun W hW => ?_, ?_⟩
  · skip
    exact quiet_load 57 _ rfl rfl (ldPP (hW.all.get 0 (x := (w.heap.size, oPP q)) rfl) Hq.out)
  refine hK _ ?_
  clear hK K
  (try simp only [Act.put, List.setIfInBounds_toArray, List.set_cons_zero, List.set_cons_succ])
  refine wpQuiet_step_h hlq ?_
  clear hlq lq
  intro K lq hlq hK
  refine wanted_go (by rfl) ?_
  refine ⟨.bool true, fun W hW => ?_, ?_⟩
  · go_simp
    exact (spec_call Hq.out hs.out).mono fun e W2 hc2 => ⟨hc2.1, hW.go hc2.2⟩
  refine hK _ ?_
  clear hK K
  (try simp only [Act.put, List.setIfInBounds_toArray, List.set_cons_zero, List.set_cons_succ])
  refine wpQuiet_nil_h hlq ?_
  clear hlq lq hV4
  intro V5 hV6
  go_wp2_with (refine wpList_quiet (C := Bz w [(w.heap.size, oPP q)]) 6 (by rfl) hV6 ?_)
  refine wpQuiet_hide ?_
  intro lq hlq
  refine wpQuiet_step_h hlq ?_
  clear hlq lq
  intro K lq hlq hK
  refine wanted_go (by rfl) ?_
  refine ⟨?_, fun W hW => ?_, ?_⟩
  rotate_left
  · skip
    go_simp
    with_reducible rfl
  refine hK _ ?_
  clear hK K
  (try simp only [Act.put, List.setIfInBounds_toArray, List.set_cons_zero, List.set_cons_succ])
  refine wpQuiet_step_h hlq ?_
  clear hlq lq
  intro K lq hlq hK
  refine wanted_go (by rfl) ?_
  refine ⟨vPf q.s, fun W hW => ?_, ?_⟩
  · skip
    exact quiet_load 55 _ rfl rfl (ldPPs (hW.all.get 0 (x := (w.heap.size, oPP q)) rfl) Hq.out)
  refine hK _ ?_
  clear hK K
  (try simp only [Act.put, List.setIfInBounds_toArray, List.set_cons_zero, List.set_cons_succ])
  refine wpQuiet_step_h hlq ?_
  clear hlq lq
  intro K lq hlq hK
  refine wanted_go (by rfl) ?_
  refine ⟨.string ⟨(pfxS q.s).toArray⟩, fun W hW => ?_, ?_⟩
  · go_simp
    have E' := hW.env E
    exact (pfx_any E' Hq.out.2).mono fun e W2 hc2 => ⟨hc2.1, hW.go hc2.2⟩
  refine hK _ ?_
  clear hK K
  (try simp only [Act.put, List.setIfInBounds_toArray, List.set_cons_zero, List.set_cons_succ])
  refine wpQuiet_step_h hlq ?_
  clear hlq lq
  intro K lq hlq hK
  refine wanted_go (by rfl) ?_
  refine ⟨.string ⟨([32, 102, 114, 111, 109, 32] ++ pfxS q.s).toArray⟩, fun W hW => ?_, ?_⟩
  · skip
    exact quiet_add rfl rfl rfl (str_add W _ _ s1.out)
  refine hK _ ?_
  clear hK K
  (try simp only [Act.put, List.setIfInBounds_toArray, List.set_cons_zero, List.set_cons_succ])
  refine wpQuiet_step_h hlq ?_
  clear hlq lq
  intro K lq hlq hK
  refine wanted_go (by rfl) ?_
  refine ⟨.string ⟨(pfxS q.d ++ ([32, 102, 114, 111, 109, 32] ++ pfxS q.s)).toArray⟩, fun W hW => ?_, ?_⟩
  · skip
    exact quiet_add rfl rfl rfl (str_add W _ _ s2.out)
  refine hK _ ?_
  clear hK K
  (try simp only [Act.put, List.setIfInBounds_toArray, List.set_cons_zero, List.set_cons_succ])
  refine wpQuiet_step_h hlq ?_
  clear hlq lq
  intro K lq hlq hK
  refine wanted_go (by rfl) ?_
  refine ⟨?_, fun W hW => ?_, ?_⟩
  rotate_left
  · skip
    go_simp
    with_reducible rfl
  refine hK _ ?_
  clear hK K
  (try simp only [Act.put, List.setIfInBounds_toArray, List.set_cons_zero, List.set_cons_succ])
  refine wpQuiet_nil_h hlq ?_
  clear hlq lq hV6
  intro V7 hV8
  go_wp2_with fail
  go_ret
  exact ⟨by rw [hr.out]; rfl, hV8.bel⟩
/-- PrintPair. -/
theorem pairS_any {w : World} (E : Env w) {q : Pr} (hq : q.fit) : Calls Tryz.prog 59 #[vPP q] w fun e w' => e = .returned (.string ⟨(pairS q).toArray⟩) ∧ Below w.heap.size w w' := by
  cases hc : chkPP q with
  | false => exact pair_bad hq hc
  | true =>
    cases hs : spec q with
    | false => exact pair_plain E hq hc hs
    | true => exact pair_from E hq hc hs
end Go.Proofs.YtnljjlaececnkaaGreatDoor
