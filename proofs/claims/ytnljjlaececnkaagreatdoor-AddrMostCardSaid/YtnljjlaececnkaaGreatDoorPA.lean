/-
  Texts of addresses: the document's answers as plain Lean, and that they are the program's. No condition.
-/
import Derived.Test.YtnljjlaececnkaaGreatDoorR
import Derived.Lib.AtoiTie
namespace Go.Proofs.YtnljjlaececnkaaGreatDoor
open Go.RowKit
set_option linter.unusedVariables false
set_option linter.unusedSimpArgs false
/-! ### a text at a byte -/
def glue (p : List UInt8) : List (List UInt8) → List (List UInt8)
  | [] => [p]
  | h :: t => (p ++ h) :: t
/-- A text at a byte. -/
def cutL (c : UInt8) : List UInt8 → List (List UInt8)
  | [] => [[]]
  | x :: r => if x = c then [] :: cutL c r else glue [x] (cutL c r)
theorem cutL_ne (c : UInt8) : ∀ l, cutL c l ≠ []
  | [] => by simp [cutL]
  | x :: r => by
    unfold cutL
    split
    · simp
    · cases h : cutL c r <;> simp [glue]
theorem glue_glue (p q : List UInt8) {l : List (List UInt8)} (h : l ≠ []) : glue p (glue q l) = glue (p ++ q) l := by
  cases l with
  | nil => exact absurd rfl h
  | cons a l => simp [glue]
theorem glue_nil {l : List (List UInt8)} (h : l ≠ []) : glue [] l = l := by
  cases l with
  | nil => exact absurd rfl h
  | cons a l => simp [glue]
theorem cutL_pre (c : UInt8) : ∀ (p r : List UInt8), (∀ x ∈ p, x ≠ c) → cutL c (p ++ r) = glue p (cutL c r)
  | [], r, _ => (glue_nil (cutL_ne c r)).symm
  | x :: p, r, h => by
    rw [List.cons_append, cutL, if_neg (h x (by simp)), cutL_pre c p r (fun y hy => h y (by simp [hy])), glue_glue _ _ (cutL_ne c r)]; rfl
theorem cutL_miss {c : UInt8} {l : List UInt8} (h : ∀ x ∈ l, x ≠ c) : cutL c l = [l] := by
  have := cutL_pre c l [] h
  simpa [cutL, glue] using this
theorem cutL_at {c : UInt8} {p : List UInt8} (h : ∀ x ∈ p, x ≠ c) (r : List UInt8) : cutL c (p ++ c :: r) = p :: cutL c r := by
  rw [cutL_pre c p _ h, cutL, if_pos rfl]; simp [glue]
theorem index_split {l : List UInt8} {c : UInt8} {i : Nat} (h : Lib.indexByte l c = i) : i < l.length ∧ l = l.take i ++ c :: l.drop (i + 1) ∧ ∀ x ∈ l.take i, x ≠ c := by
  obtain ⟨h1, h2⟩ := Lib.indexByte_some h
  obtain ⟨hi, he⟩ := List.getElem?_eq_some_iff.1 h1
  refine ⟨hi, ?_, fun x hx e => ?_⟩
  · rw [← he, ← List.drop_eq_getElem_cons hi, List.take_append_drop]
  · obtain ⟨j, hj, rfl⟩ := List.mem_iff_getElem.1 hx
    have hj2 : j < i := by simp at hj; omega
    refine h2 j hj2 ?_
    rw [← e, List.getElem_take, List.getElem?_eq_getElem]
theorem index_miss {l : List UInt8} {c : UInt8} (h : Lib.indexByte l c = -1) : ∀ x ∈ l, x ≠ c := fun x hx e => by
  obtain ⟨j, hj, rfl⟩ := List.mem_iff_getElem.1 hx
  exact Lib.indexByte_none h j (by rw [List.getElem?_eq_getElem hj, e])
/-- .. as texts. -/
def cutB (c : UInt8) (s : ByteArray) : List ByteArray := (cutL c s.data.toList).map fun l => ⟨l.toArray⟩
theorem ba_eq {s t : ByteArray} (h : s.data.toList = t.data.toList) : s = t := by
  obtain ⟨⟨l⟩⟩ := s; obtain ⟨⟨m⟩⟩ := t; simp at h; rw [h]
theorem ext_list (s : ByteArray) (a b : Nat) : (s.extract a b).data.toList = (s.data.toList.drop a).take (b - a) := by
  obtain ⟨⟨l⟩⟩ := s
  rw [ByteArray.data_extract, Array.toList_extract]
theorem pieces_cut (c : UInt8) : ∀ (k : Nat) (s : ByteArray), s.size ≤ k → pieces s ⟨#[c]⟩ = cutB c s
  | 0, s, hk => by
    have hl : s.data.toList.length = s.size := Array.length_toList
    have e : s.data.toList = [] := List.eq_nil_of_length_eq_zero (by omega)
    have h : Lib.indexByte s.data.toList c = -1 := by rw [e]; rfl
    rw [pieces_miss h]
    unfold cutB
    rw [cutL_miss (index_miss h)]; rfl
  | k + 1, s, hk => by
    by_cases h : Lib.indexByte s.data.toList c = -1
    · rw [pieces_miss h]
      unfold cutB
      rw [cutL_miss (index_miss h)]; rfl
    · obtain ⟨i, h1, h2⟩ := index_hit h
      obtain ⟨hi, hs, hp⟩ := index_split h1
      have hl : s.data.toList.length = s.size := Array.length_toList
      rw [pieces_hit h1, pieces_cut c k _ (by rw [ByteArray.size_extract]; omega)]
      unfold cutB
      rw [hs, cutL_at hp, List.map_cons]
      congr 1
      · exact ba_eq (by rw [ext_list]; simp)
      · rw [ext_list, List.take_of_length_le (by simp)]
theorem pieces_eq (c : UInt8) (s : ByteArray) : pieces s ⟨#[c]⟩ = cutB c s := pieces_cut c s.size s (Nat.le_refl _)
/-! ### a number -/
def isD (c : UInt8) : Prop := 48 ≤ c.toNat ∧ c.toNat ≤ 57
instance (c : UInt8) : Decidable (isD c) := by unfold isD; infer_instance
/-- A number of at most so many digits. -/
def decF (l : List UInt8) (most : Int) : Option Int :=
  if l = [] ∨ most < l.length ∨ (1 < l.length ∧ l.head? = some 48) then none else (Lib.decFrom 0 l).map fun (n : Nat) => (n : Int)
theorem decFrom_snoc : ∀ (l : List UInt8) (acc : Nat) (c : UInt8), Lib.decFrom acc (l ++ [c]) = match Lib.decFrom acc l with | some n => if 48 ≤ c.toNat ∧ c.toNat ≤ 57 then some (n * 10 + (c.toNat - 48)) else none | none => none
  | [], acc, c => by
    by_cases h : 48 ≤ c.toNat ∧ c.toNat ≤ 57
    · simp only [List.nil_append, Lib.decFrom, Lib.digitVal, if_pos h]
    · simp only [List.nil_append, Lib.decFrom, Lib.digitVal, if_neg h]
  | x :: l, acc, c => by
    simp only [List.cons_append, Lib.decFrom, Lib.digitVal]
    split
    · rename_i h; split at h
      · cases h; exact decFrom_snoc l _ c
      · cases h
    · rfl
theorem dec_ne (u : Nat) : Lib.decDigits u ≠ [] := by
  intro h
  have := Lib.decDigits_length u
  rw [h] at this
  have := Lib.nDigits_pos u
  simp at *; omega
theorem digit_nat {d : Nat} (h : d < 10) : (UInt8.ofNat (48 + d)).toNat = 48 + d := by
  rw [UInt8.toNat_ofNat']; exact Nat.mod_eq_of_lt (by omega)
/-- What Itoa lays is read. -/
theorem decFrom_dec : ∀ (k u : Nat), u ≤ k → Lib.decFrom 0 (Lib.decDigits u) = some u
  | k, u, hk => by
    rw [Lib.decDigits]
    split
    · rename_i h
      simp only [Lib.decFrom, Lib.digitVal, digit_nat h]
      rw [if_pos (by omega)]; simp
    · rename_i h
      have hd := digit_nat (d := u % 10) (by omega)
      rw [decFrom_snoc, decFrom_dec (k - 1) (u / 10) (by omega)]
      simp only [hd]
      rw [if_pos (by omega)]
      congr 1; omega
termination_by k => k
decreasing_by omega
theorem dec_head : ∀ (k u : Nat), u ≤ k → 1 ≤ u → ∃ c r, Lib.decDigits u = c :: r ∧ 49 ≤ c.toNat
  | k, u, hk, h1 => by
    rw [Lib.decDigits]
    split
    · rename_i h
      exact ⟨_, [], rfl, by rw [digit_nat h]; omega⟩
    · rename_i h
      obtain ⟨c, r, e, hc⟩ := dec_head (k - 1) (u / 10) (by omega) (by omega)
      exact ⟨c, r ++ [UInt8.ofNat (48 + u % 10)], by rw [e]; rfl, hc⟩
termination_by k => k
decreasing_by omega
theorem decF_dec {u : Nat} {most : Int} (h : ((Lib.decDigits u).length : Int) ≤ most) : decF (Lib.decDigits u) most = some (u : Int) := by
  unfold decF
  rw [if_neg, decFrom_dec u u (Nat.le_refl _)]
  · rfl
  · rintro (h1 | h1 | ⟨h1, h2⟩)
    · exact dec_ne u h1
    · omega
    · rcases Nat.eq_zero_or_pos u with rfl | hu
      · rw [Lib.decDigits_one (by decide)] at h1; simp at h1
      · obtain ⟨c, r, e, hc⟩ := dec_head u u (Nat.le_refl _) hu
        rw [e] at h2
        simp at h2
        subst h2
        exact absurd hc (by decide)
/-- .. and back. -/
theorem dec_decFromK (k : Nat) : ∀ (l : List UInt8) (n : Nat), l.length ≤ k → l ≠ [] → ¬ (1 < l.length ∧ l.head? = some 48) → Lib.decFrom 0 l = some n → Lib.decDigits n = l ∧ (1 < l.length → 1 ≤ n) := by
  induction k with
  | zero => intro l n hk hne; exact absurd (List.eq_nil_of_length_eq_zero (by omega)) hne
  | succ k ih =>
    intro l n hk hne hz h
    rcases List.eq_nil_or_concat l with rfl | ⟨m, c, rfl⟩
    · exact absurd rfl hne
    · rw [List.concat_eq_append] at *
      rw [decFrom_snoc] at h
      split at h
      · rename_i n' hn
        split at h
        · rename_i hc
          cases h
          cases hm : m with
          | nil =>
            subst hm
            simp [Lib.decFrom] at hn
            subst hn
            rw [Lib.decDigits_one (by omega)]
            refine ⟨?_, fun h => by simp at h⟩
            rw [List.nil_append, show 48 + (0 * 10 + (c.toNat - 48)) = c.toNat by omega]
            simp
          | cons x m' =>
            have hml : 1 < (m ++ [c]).length := by rw [hm]; simp
            have hhd : (m ++ [c]).head? = m.head? := by rw [hm]; rfl
            have hn48 : m.head? ≠ some 48 := fun e => hz ⟨hml, by rw [hhd]; exact e⟩
            obtain ⟨e1, e2⟩ := ih m n' (by simp at hk; omega) (by rw [hm]; simp) (fun h => hn48 h.2) hn
            have hpos : 1 ≤ n' := by
              by_cases h1 : 1 < m.length
              · exact e2 h1
              · have hml1 : m = [x] := by rw [hm] at h1 ⊢; simp at h1; rw [h1]
                rw [hml1] at hn hn48
                simp only [Lib.decFrom, Lib.digitVal] at hn
                split at hn
                · rename_i hx
                  split at hx
                  · cases hx
                    have : x.toNat ≠ 48 := fun e => hn48 (by simp; exact UInt8.toNat_inj.1 e)
                    simp at hn; omega
                  · cases hx
                · cases hn
            rw [← hm]
            refine ⟨?_, fun _ => by omega⟩
            rw [Lib.decDigits, dif_neg (by omega), show (n' * 10 + (c.toNat - 48)) / 10 = n' by omega, e1, show 48 + (n' * 10 + (c.toNat - 48)) % 10 = c.toNat by omega]
            simp
        · cases h
      · cases h
theorem dec_decFrom (l : List UInt8) (n : Nat) (hne : l ≠ []) (hz : ¬ (1 < l.length ∧ l.head? = some 48)) (h : Lib.decFrom 0 l = some n) : Lib.decDigits n = l ∧ (1 < l.length → 1 ≤ n) := dec_decFromK l.length l n (Nat.le_refl _) hne hz h
theorem decFrom_nat {l : List UInt8} {n : Nat} (hl : l.length ≤ 18) (hne : l ≠ []) (h : Lib.decFrom 0 l = some n) : Lib.atoiAll l = .ok (n : Int) := by
  rw [Lib.atoiAll_short l hl]
  cases l with
  | nil => exact absurd rfl hne
  | cons c r =>
    have hd : 48 ≤ c.toNat ∧ c.toNat ≤ 57 := by
      simp only [Lib.decFrom, Lib.digitVal] at h
      split at h
      · rename_i hx; split at hx
        · assumption
        · cases hx
      · cases h
    have h45 : (c == 45) = false := by rw [beq_eq_false_iff_ne]; rintro rfl; exact absurd hd.1 (by decide)
    have h43 : (c == 43) = false := by rw [beq_eq_false_iff_ne]; rintro rfl; exact absurd hd.1 (by decide)
    simp only [Lib.atoi, h45, h43]
    unfold Lib.decNat
    rw [h]; rfl
theorem decS_F {s : ByteArray} {most : Int} (hm : most ≤ 18) : decS s most = decF s.data.toList most := by
  have hl : s.data.toList.length = s.size := Array.length_toList
  by_cases hlong : most < s.size
  · have e : decF s.data.toList most = none := by unfold decF; rw [if_pos (.inr (.inl (by rw [hl]; exact hlong)))]
    rw [e]
    unfold decS
    split
    · rw [if_neg (by omega)]
    · rfl
  · cases hF : decF s.data.toList most with
    | some v =>
      unfold decF at hF
      split at hF
      · cases hF
      · rename_i hc
        obtain ⟨n, hn, rfl⟩ := Option.map_eq_some_iff.1 hF
        have hne : s.data.toList ≠ [] := fun e => hc (.inl e)
        have ha := decFrom_nat (by omega) hne hn
        have hd := (dec_decFrom _ n hne (fun h => hc (.inr (.inr h))) hn).1
        rw [decS_ok ha, if_pos ⟨by omega, by rw [Lib.itoa_nonneg]; exact hd, by omega⟩]
    | none =>
      unfold decS
      split
      · rename_i v hv
        split
        · rename_i hc
          obtain ⟨h1, h2, h3⟩ := hc
          obtain ⟨u, rfl⟩ : ∃ u : Nat, v = u := ⟨v.toNat, by omega⟩
          rw [Lib.itoa_nonneg] at h2
          rw [← h2, decF_dec (by rw [h2, hl]; exact h1)] at hF
          cases hF
        · rfl
      · rfl
end Go.Proofs.YtnljjlaececnkaaGreatDoor
