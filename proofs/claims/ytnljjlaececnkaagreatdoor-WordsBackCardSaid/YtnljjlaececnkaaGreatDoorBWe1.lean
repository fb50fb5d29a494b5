/-
  Merged texts (GG, GH, GI, GJ, GM, GK, GN, GO, GR, GS, GT), part 1 of 1. Conditions: each part's own, told at its head.
-/
import Derived.Test.YtnljjlaececnkaaGreatDoorBWd1
import Derived.Test.YtnljjlaececnkaaGreatDoorBWd2
import Derived.Test.YtnljjlaececnkaaGreatDoorBWd3
import Derived.Test.YtnljjlaececnkaaGreatDoorBWd4
import Derived.Test.YtnljjlaececnkaaGreatDoorBWd5
import Derived.Test.YtnljjlaececnkaaGreatDoorBWd6
import Derived.Test.YtnljjlaececnkaaGreatDoorBWd7
import Derived.Test.YtnljjlaececnkaaGreatDoorBWd8
/-
  Numbers. Conditions: the held start; a text is no longer than memory has room for.
-/
namespace Go.Proofs.YtnljjlaececnkaaGreatDoor
open Go.RowKit
set_option linter.unusedVariables false
set_option linter.unusedSimpArgs false
/-- A number that is at most so much. -/
def numO (s : ByteArray) (most : Int) : Option Int := match decS s 10 with
  | some v => if v ≤ most then some v else none
  | none => none
def NumR (s : ByteArray) (most : Int) : Value := .tuple #[.int .i64 ((numO s most).getD 0), .bool (numO s most).isSome]
theorem NumR_no {s : ByteArray} {most : Int} (h : numO s most = none) : NumR s most = .tuple #[.int .i64 0, .bool false] := by unfold NumR; rw [h]; rfl
theorem NumR_yes {s : ByteArray} {most v : Int} (h : numO s most = some v) : NumR s most = .tuple #[.int .i64 v, .bool true] := by unfold NumR; rw [h]; rfl
theorem numO_no {s : ByteArray} {most : Int} (h : decS s 10 = none) : numO s most = none := by unfold numO; rw [h]
set_option maxRecDepth 100000 in
set_option maxHeartbeats 3200000 in
theorem number_any {w : World} (E : Env w) (s : ByteArray) (hs : s.size ≤ 140737488351232) (most : Int) : Calls Tryz.prog 47 #[.string s, .int .i64 most] w fun e w' => e = .returned (NumR s most) ∧ Below w.heap.size w w' := by
  obtain ⟨ev1, hv1, he1⟩ := (E.go (Below.refl _ _)).1.es
  obtain ⟨ev2, hv2, he2⟩ := (E.go (Below.refl _ _)).1.er
  replace he1 := Lib.hid he1
  replace he2 := Lib.hid he2
  cases ha : Lib.atoiAll s.data.toList with
  | «syntax» =>
    have hr : decS s 10 = none := by unfold decS; rw [ha]
    rw [NumR_no (numO_no hr)]
    go_enter Tryz.func47, Tryz.ntmps47
    go_wp2_with (go_at_call 116; refine (Tryz.strconv_Atoi_syntax s (by omega) ha ev1 w hv1 he1.out).mono ?_; rintro e w' ⟨N, rfl, -, -, bel⟩)
    go_ret2
    exact ⟨rfl, bel⟩
  | range =>
    have hr : decS s 10 = none := by unfold decS; rw [ha]
    rw [NumR_no (numO_no hr)]
    go_enter Tryz.func47, Tryz.ntmps47
    go_wp2_with (go_at_call 116; refine (Tryz.strconv_Atoi_range s (by omega) ha ev2 w hv2 he2.out).mono ?_; rintro e w' ⟨N, rfl, -, -, bel⟩)
    go_ret2
    exact ⟨rfl, bel⟩
  | ok v =>
    obtain ⟨hv0, hv1⟩ := atoi_bounds ha
    have hit := fun (W : World) (h : Below w.heap.size w W) => itoa_call (w := W) (n := v) (E.go h).2 hv0 hv1
    have hd := decS_ok (most := 10) ha
    obtain ⟨c, hc⟩ : ∃ c, ((⟨(Lib.itoa v).toArray⟩ : ByteArray).toList == s.toList) = c := ⟨_, rfl⟩
    have hcB : (Lib.itoa v == s.toList) = c := by rw [← hc, ByteArray.toList_eq (⟨(Lib.itoa v).toArray⟩ : ByteArray)]
    have hc2 : Lib.itoa v = s.data.toList ↔ c = true := by rw [← hc, beq_iff_eq, ByteArray.toList_eq, ByteArray.toList_eq]
    replace hc2 := Lib.hid hc2
    by_cases hl : 10 < s.size
    · have hl1 : decide ((10 : Int) < s.size) = true := decide_eq_true (by omega)
      have hr : decS s 10 = none := by rw [hd, if_neg (fun h => by omega)]
      rw [NumR_no (numO_no hr)]
      clear hd
      go_enter Tryz.func47, Tryz.ntmps47
      go_wp2_with (go_at_call 116; refine (Tryz.strconv_Atoi_ok s (by omega) v ha w).mono ?_; rintro e w1 ⟨rfl, hw⟩; have bel : Below w.heap.size w w1 := belAtoi hw; clear hw)
      go_ret2
      exact ⟨rfl, bel⟩
    · have hl1 : decide ((10 : Int) < s.size) = false := decide_eq_false (by omega)
      by_cases hn : v < 0
      · have hn1 : decide (v < 0) = true := decide_eq_true hn
        have hr : decS s 10 = none := by rw [hd, if_neg (fun h => by omega)]
        rw [NumR_no (numO_no hr)]
        clear hd
        go_enter Tryz.func47, Tryz.ntmps47
        go_wp2_with (go_at_call 116; refine (Tryz.strconv_Atoi_ok s (by omega) v ha w).mono ?_; rintro e w1 ⟨rfl, hw⟩; have bel : Below w.heap.size w w1 := belAtoi hw; clear hw)
        go_ret2
        exact ⟨rfl, bel⟩
      · have hn1 : decide (v < 0) = false := decide_eq_false hn
        by_cases hm : most < v
        · have hm1 : decide (most < v) = true := decide_eq_true hm
          have hr : numO s most = none := by
            unfold numO; rw [hd]
            split
            · rename_i u hu
              split at hu
              · cases hu; rw [if_neg (by omega)]
              · cases hu
            · rfl
          rw [NumR_no hr]
          clear hd
          go_enter Tryz.func47, Tryz.ntmps47
          go_wp2_with (go_at_call 116; refine (Tryz.strconv_Atoi_ok s (by omega) v ha w).mono ?_; rintro e w1 ⟨rfl, hw⟩; have bel : Below w.heap.size w w1 := belAtoi hw; clear hw)
          go_ret2
          exact ⟨rfl, bel⟩
        · have hm1 : decide (most < v) = false := decide_eq_false hm
          cases c
          · have hr : decS s 10 = none := by rw [hd, if_neg (fun h => Bool.noConfusion (hc2.out.1 h.2.1))]
            rw [NumR_no (numO_no hr)]
            clear hd
            go_enter Tryz.func47, Tryz.ntmps47
            go_wp2_with (first | (go_at_call 116; refine (Tryz.strconv_Atoi_ok s (by omega) v ha w).mono ?_; rintro e w1 ⟨rfl, hw⟩; have bel : Below w.heap.size w w1 := belAtoi hw; clear hw) | (go_at_call 117; refine (hit _ bel).mono ?_; rintro e w3 ⟨rfl, bel3⟩))
            go_ret2
            exact ⟨rfl, bel.trans (bel3.mono bel.size)⟩
          · have hr : numO s most = some v := by
              unfold numO; rw [hd, if_pos ⟨by omega, hc2.out.2 rfl, by omega⟩]
              exact if_pos (by omega)
            rw [NumR_yes hr]
            clear hd
            go_enter Tryz.func47, Tryz.ntmps47
            go_wp2_with (first | (go_at_call 116; refine (Tryz.strconv_Atoi_ok s (by omega) v ha w).mono ?_; rintro e w1 ⟨rfl, hw⟩; have bel : Below w.heap.size w w1 := belAtoi hw; clear hw) | (go_at_call 117; refine (hit _ bel).mono ?_; rintro e w3 ⟨rfl, bel3⟩))
            go_ret2
            exact ⟨rfl, bel.trans (bel3.mono bel.size)⟩
set_option maxRecDepth 100000 in
theorem rnumber_any {w : World} (s : ByteArray) (most : Int) : Calls Tryz.prog 48 #[.string s, .int .i64 most] w fun e w' => e = .returned (NumR s most) ∧ w' = w := by
  have hd := fun W => dec118_any (w := W) s (most := 10) (by decide)
  have hF : decS s 10 = decF s.data.toList 10 := decS_F (by decide)
  cases h : decF s.data.toList 10 with
  | none =>
    rw [DecF_no h] at hd
    rw [NumR_no (numO_no (hF.trans h))]
    clear hF h
    go_enter Tryz.func48, Tryz.ntmps48
    go_wp2_with (go_at_call 118; refine (hd _).mono ?_; rintro e w1 ⟨rfl, rfl⟩)
    go_ret2
    exact ⟨rfl, rfl⟩
  | some v =>
    rw [DecF_yes h] at hd
    by_cases hm : most < v
    · have hm1 : decide (most < v) = true := decide_eq_true hm
      have hr : numO s most = none := by unfold numO; rw [hF, h]; exact if_neg (by omega)
      rw [NumR_no hr]
      clear hF h
      go_enter Tryz.func48, Tryz.ntmps48
      go_wp2_with (go_at_call 118; refine (hd _).mono ?_; rintro e w1 ⟨rfl, rfl⟩)
      go_ret2
      exact ⟨rfl, rfl⟩
    · have hm1 : decide (most < v) = false := decide_eq_false hm
      have hr : numO s most = some v := by unfold numO; rw [hF, h]; exact if_pos (by omega)
      rw [NumR_yes hr]
      clear hF h
      go_enter Tryz.func48, Tryz.ntmps48
      go_wp2_with (go_at_call 118; refine (hd _).mono ?_; rintro e w1 ⟨rfl, rfl⟩)
      go_ret2
      exact ⟨rfl, rfl⟩
end Go.Proofs.YtnljjlaececnkaaGreatDoor
/-
  Lists of texts that came in: are two alike, joined, printable; the document's word and Join. No condition but sizes.
-/
namespace Go.Proofs.YtnljjlaececnkaaGreatDoor
open Go.RowKit
set_option linter.unusedVariables false
set_option linter.unusedSimpArgs false
/-- A list of texts, wherever it lies. -/
def SRow (w : World) (v : Value) (xs : List ByteArray) : Prop := ∃ A c, v = .slice A xs.length c ∧ (0 < xs.length → ∃ k o, A = some ⟨k, o, none⟩ ∧ k < w.heap.size ∧ ∀ (j : Nat) x, xs[j]? = some x → w.cell? ⟨k, o + j, none⟩ = some (.string x))
theorem SRow.of_row {w : World} {S : Nat → Prop} {v : Value} {n : Nat} {xs : List ByteArray} (h : Row w S 1 v n (strs xs)) : SRow w v xs := by
  have hn : xs.length = n := by have := h.1; simpa [strs] using this
  subst hn
  obtain ⟨A, c, rfl, -, -⟩ := h.head
  refine ⟨A, c, rfl, fun h0 => ?_⟩
  obtain ⟨k, o, rfl, -, hk, hc⟩ := h.at_ h0
  exact ⟨k, o, rfl, hk, fun j x hx => hc j _ (by unfold strs; rw [List.getElem?_map, hx]; rfl)⟩
theorem SRow.of_own {w : World} {v : Value} {n : Nat} {xs : List ByteArray} (h : w.ownsRow 0 9 1 v n (strs xs)) : SRow w v xs := .of_row (own_old h)
theorem SRow.below {w w' : World} {v : Value} {xs : List ByteArray} (h : SRow w v xs) (b : Below w.heap.size w w') : SRow w' v xs := by
  obtain ⟨A, c, rfl, hc⟩ := h
  refine ⟨A, c, rfl, fun h0 => ?_⟩
  obtain ⟨k, o, rfl, hk, h2⟩ := hc h0
  exact ⟨k, o, rfl, Nat.lt_of_lt_of_le hk b.size, fun j x hx => (Below.cell (p := ⟨k, o + j, none⟩) b hk).trans (h2 j x hx)⟩
set_option maxRecDepth 100000 in
set_option maxHeartbeats 1600000 in
/-- Two lists of the same texts are alike. -/
theorem texts_row {w : World} {x y : Value} {xs : List ByteArray} (hn : xs.length ≤ 100000) (h1 : SRow w x xs) (h2 : SRow w y xs) : Calls Tryz.prog 22 #[x, y] w fun e w' => e = .returned (.bool true) ∧ Below w.heap.size w w' := by
  obtain ⟨A, c, rfl, h1⟩ := h1
  obtain ⟨B, d, rfl, h2⟩ := h2
  by_cases h0 : 0 < xs.length
  · obtain ⟨k1, o1, rfl, hk1, hc1⟩ := h1 h0
    obtain ⟨k2, o2, rfl, hk2, hc2⟩ := h2 h0
    have H1 := Lib.hid hc1
    have H2 := Lib.hid hc2
    clear h1 h2 hc1 hc2
    go_enter Tryz.func22, Tryz.ntmps22
    go_wp2
    go_loopw [5] (fun x5 wr => ∃ i : Nat, i ≤ xs.length ∧ x5 = .int .i64 i ∧ Below w.heap.size w wr) (fun x5 wr => xs.length - (intOf x5).toNat)
    case atStart => exact ⟨0, Nat.zero_le _, rfl, Below.refl _ _⟩
    case round =>
      obtain ⟨i, hi, rfl, bel⟩ := hrel
      by_cases hlt : i < xs.length
      · have hx := List.getElem?_eq_getElem hlt
        have q1 : wr.cell? ⟨k1, o1 + i, none⟩ = some (.string xs[i]) := Below.cell (p := ⟨k1, o1 + i, none⟩) bel hk1 |>.trans (H1.out i _ hx)
        have q2 : wr.cell? ⟨k2, o2 + i, none⟩ = some (.string xs[i]) := Below.cell (p := ⟨k2, o2 + i, none⟩) bel hk2 |>.trans (H2.out i _ hx)
        replace hx := Lib.hid hx
        go_wp2
        go_quiet (fail)
        go_wp2
        refine ⟨⟨i + 1, by omega, by congr 1, below_drewN bel _⟩, by simp [intOf]; omega⟩
      · obtain rfl : i = xs.length := by omega
        go_wp2
        go_ret
        exact ⟨rfl, bel⟩
  · have : xs.length = 0 := by omega
    rw [this]
    exact texts_nil
theorem joins_nil {w : World} {A : Option Addr} {c : Nat} : Calls Tryz.prog 45 #[.slice A 0 c] w fun e w' => e = .returned (.string ⟨#[]⟩) ∧ Below w.heap.size w w' := by
  have hjc := join_call (w := w) (v := .slice none 0 0) (xs := []) (sep := ⟨#[32]⟩) rfl (by simpa [strs] using own_nil w 9 1) (by simp) (by simp [Lib.join])
  go_enter Tryz.func45, Tryz.ntmps45
  go_wp2
  go_loopw [3, 8] (fun x3 x8 wr => x8 = .int .i64 0 ∧ x3 = .slice none 0 0 ∧ wr = w) (fun x3 x8 wr => 0)
  case atStart => exact ⟨rfl, rfl, rfl⟩
  case round =>
    obtain ⟨rfl, rfl, rfl⟩ := hrel
    go_wp2_with (go_at_call 114; refine hjc.mono ?_; rintro e w1 ⟨rfl, bel1⟩)
    go_ret
    exact ⟨rfl, bel1⟩
/-- The line of words. -/
def joinB (xs : List ByteArray) : ByteArray := ⟨(Lib.join (xs.map fun x => wordL x.data.toList) [32]).toArray⟩
theorem wds_list (xs : List ByteArray) : (wds xs).map (·.data.toList) = xs.map fun x => wordL x.data.toList := by unfold wds; rw [List.map_map]; rfl
set_option maxRecDepth 100000 in
set_option maxHeartbeats 1600000 in
theorem joins_row {w : World} {v : Value} {xs : List ByteArray} (hv : SRow w v xs) (hn : xs.length ≤ 1000) (hx : ∀ x ∈ xs, x.size < 4294967281) (hlen : (joinB xs).size ≤ 140737488355328) :
    Calls Tryz.prog 45 #[v] w fun e w' => e = .returned (.string (joinB xs)) ∧ Below w.heap.size w w' := by
  obtain ⟨A, c, rfl, hv⟩ := hv
  by_cases h0 : 0 < xs.length
  · obtain ⟨k, o, rfl, hk, hc⟩ := hv h0
    have Hx := Lib.hid hx
    have Hc := Lib.hid hc
    have Hl : Hid ((Lib.join ((wds xs).map (·.data.toList)) [32]).length ≤ 140737488355328) := Lib.hid (by rw [wds_list]; rw [← len_data] at hlen; exact hlen)
    have hres : joinB xs = ⟨(Lib.join ((wds xs).map (·.data.toList)) [32]).toArray⟩ := by rw [wds_list]; rfl
    rw [hres]
    clear hx hc hlen hv hres
    go_enter Tryz.func45, Tryz.ntmps45
    go_wp2
    go_loopw [3, 8] (fun x3 x8 wr => ∃ j : Nat, x8 = .int .i64 j ∧ j ≤ xs.length ∧ Hid (wr.ownsRow 0 9 1 x3 j (strs (wds (xs.take j)))) ∧ Lo w.heap.size x3 ∧ Below w.heap.size w wr) (fun x3 x8 wr => xs.length - (intOf x8).toNat)
    case atStart => exact ⟨0, rfl, Nat.zero_le _, Lib.hid (by simpa [strs, wds] using own_nil _ _ _), Lo.nil _, Below.refl _ _⟩
    case round =>
      obtain ⟨j, rfl, hj, ho, lo, bel⟩ := hrel
      by_cases hlt : j < xs.length
      · have hg := List.getElem?_eq_getElem hlt
        have q1 : wr.cell? ⟨k, o + j, none⟩ = some (.string xs[j]) := (Below.cell (p := ⟨k, o + j, none⟩) bel hk).trans (Hc.out j _ hg)
        have q2 := Hx.out _ (List.mem_of_getElem? hg)
        have ht : Hid (strs (wds (xs.take (j + 1))) = strs (wds (xs.take j)) ++ [.string ⟨(wordL xs[j].data.toList).toArray⟩]) := Lib.hid (by
          rw [take_snoc hg]; unfold strs wds; rw [List.map_append, List.map_append]; rfl)
        have hw := fun W => word_any (w := W) q2
        replace hg := Lib.hid hg
        go_wp2_with (first | (go_at_call 113; refine (hw _).mono ?_; rintro e w1 ⟨rfl, bel1⟩) | (at_builtin; refine wpList_app1 rfl (.tmp 12) (.tmp 15) 23 rfl Tryz.underlying23 Tryz.info9 rfl (by decide) (by decide) [.string ⟨(wordL xs[j].data.toList).toArray⟩] rfl (by intro z hz; simp at hz; subst hz; rfl) rfl (own_below ho.out bel1 (own_lt ho.out)) rfl (by omega) ?_; intro v' w2 ho2 hn2 hf2))
        have bel2 := bel.trans (bel1.mono bel.size)
        refine ⟨⟨j + 1, by congr 1, by omega, Lib.hid (by rw [ht.out]; exact ho2), lo.next hn2 bel2.size, bel2.trans (hf2.belowB lo bel2.size)⟩, by simp [intOf]; omega⟩
      · obtain rfl : j = xs.length := by omega
        have ho2 := ho.out
        rw [List.take_length] at ho2
        have hjc := join_call (xs := wds xs) (sep := ⟨#[32]⟩) (by simp [wds]) ho2 (by simp [wds]; omega) Hl.out
        go_wp2_with (go_at_call 114; refine hjc.mono ?_; rintro e w1 ⟨rfl, bel1⟩)
        go_ret
        exact ⟨rfl, bel.trans (bel1.mono bel.size)⟩
  · have h1 : xs.length = 0 := by omega
    have h2 : xs = [] := List.length_eq_zero_iff.1 h1
    subst h2
    exact joins_nil
end Go.Proofs.YtnljjlaececnkaaGreatDoor
/-
  The document's word and Join; printable. Condition: a text is no longer than memory has room for.
-/
namespace Go.Proofs.YtnljjlaececnkaaGreatDoor
open Go.RowKit
set_option linter.unusedVariables false
set_option linter.unusedSimpArgs false
theorem idx_all : ∀ l : List UInt8, (!(decide (0 ≤ Lib.indexByte l 32))) = l.all (· != 32)
  | [] => rfl
  | c :: l => by
    have ih := idx_all l
    have hg := Lib.indexByte_ge l 32
    have e0 : Lib.indexByte (c :: l) 32 = if c == 32 then 0 else if Lib.indexByte l 32 == -1 then -1 else Lib.indexByte l 32 + 1 := rfl
    rw [List.all_cons, ← ih, e0]
    by_cases h : c = 32
    · subst h; simp
    · have hb : (c == 32) = false := by simpa using h
      have hn : (c != 32) = true := by simpa using h
      rw [hb, hn]
      by_cases h2 : Lib.indexByte l 32 = -1
      · simp [h2]
      · have h3 : (Lib.indexByte l 32 == -1) = false := by simpa using h2
        rw [h3]
        have e1 : decide (0 ≤ Lib.indexByte l 32) = true := decide_eq_true (by omega)
        have e2 : decide (0 ≤ Lib.indexByte l 32 + 1) = true := decide_eq_true (by omega)
        simp only [e1]
        simp; omega
/-- Does a text begin as a plain word? -/
def headP (l : List UInt8) : Bool := match l with
  | [] => false
  | c :: _ => c != 34 && c != 35
theorem plain_head (l : List UInt8) : plainW l = (headP l && l.all (· != 32)) := by
  cases l with
  | nil => rfl
  | cons c l => unfold plainW headP; rw [idx_all]
theorem headP_at {s : ByteArray} (h : 0 < s.size) : headP s.data.toList = ((s[0].toNat : Int) != 34 && (s[0].toNat : Int) != 35) := by
  have hg0 := get_byte s 0 h
  cases hl : s.data.toList with
  | nil => rw [hl] at hg0; cases hg0
  | cons c r =>
    rw [hl] at hg0; simp at hg0; subst hg0
    have e1 : ∀ n : UInt8, (s[0] != n) = ((s[0].toNat : Int) != (n.toNat : Int)) := fun n => by
      by_cases h : s[0] = n
      · rw [h]; simp
      · have h2 : (s[0].toNat : Int) ≠ n.toNat := fun e => h (UInt8.toNat_inj.1 (Int.ofNat_inj.1 e))
        rw [bne_iff_ne.mpr h, bne_iff_ne.mpr h2]
    show (s[0] != 34 && s[0] != 35) = _
    rw [e1 34, e1 35]; rfl
theorem esc_snoc {l : List UInt8} {i : Nat} {c : UInt8} (h : l[i]? = some c) : escL (l.take (i + 1)) = escL (l.take i) ++ escB c := esc_take h
set_option maxRecDepth 100000 in
set_option maxHeartbeats 3200000 in
theorem rword_any {w : World} {s : ByteArray} (hs : s.size < 4294967281) : Calls Tryz.prog 115 #[.string s] w fun e w' => e = .returned (.string ⟨(wordL s.data.toList).toArray⟩) ∧ w' = w := by
  obtain ⟨p0, hp0⟩ : ∃ p0, headP s.data.toList = p0 := ⟨_, rfl⟩
  have hend := plain_head s.data.toList
  rw [hp0] at hend
  have hfin : ∀ (b : Bool), (p0 && s.data.toList.all (· != 32)) = b → wordL s.data.toList = if b then s.data.toList else [34] ++ escL s.data.toList ++ [34] := fun b hb => by unfold wordL; rw [hend, hb]
  replace hfin := Lib.hid hfin
  have hel := esc_le s.data.toList
  rw [len_data] at hel
  clear hend
  go_enter Tryz.func115, Tryz.ntmps115
  go_upto_region 1 with fail
  go_cut [3] from 3 to 50 (fun x3 W => x3 = .bool p0 ∧ W = w)
  case first =>
    by_cases h0 : 0 < s.size
    · rw [headP_at h0] at hp0
      have n1 : (s.toList == ([] : List UInt8)) = false := by
        rw [Lib.toList_data]
        have := len_data s
        cases h : s.data.toList with
        | nil => rw [h] at this; simp at this; omega
        | cons c l => rfl
      have n2 : (s.toList != ([] : List UInt8)) = true := by show (!(s.toList == ([] : List UInt8))) = true; rw [n1]; rfl
      cases h1 : ((s[0].toNat : Int) != 34) with
      | true =>
        rw [h1, Bool.true_and] at hp0
        go_wp2
        go_meet
        exact ⟨by rw [← hp0], rfl⟩
      | false =>
        rw [h1, Bool.false_and] at hp0
        subst hp0
        go_wp2
        go_meet
        exact ⟨rfl, rfl⟩
    · have n1 : (s.toList == ([] : List UInt8)) = true := by
        rw [Lib.toList_data]
        have := len_data s
        cases h : s.data.toList with
        | nil => rfl
        | cons c l => rw [h] at this; simp at this; omega
      have n2 : (s.toList != ([] : List UInt8)) = false := by show (!(s.toList == ([] : List UInt8))) = false; rw [n1]; rfl
      have hq : p0 = false := by
        rw [← hp0]
        have := len_data s
        cases h : s.data.toList with
        | nil => rfl
        | cons c l => rw [h] at this; simp at this; omega
      subst hq
      go_wp2
      go_meet
      exact ⟨rfl, rfl⟩
  case rest =>
    obtain ⟨rfl, rfl⟩ := hcut
    clear hp0
    go_wp2
    go_loop [3, 4, 5] (fun x3 x4 x5 => ∃ (i : Nat) (z : ByteArray) (b : Bool), i ≤ s.size ∧ x3 = .bool b ∧ x4 = .string z ∧ x5 = .int .i64 i ∧ Hid ((p0 && (s.data.toList.take i).all (· != 32)) = b) ∧ Hid (z.data.toList = 34 :: escL (s.data.toList.take i))) (fun x3 x4 x5 => s.size - (intOf x5).toNat)
    case atStart => exact ⟨0, ⟨#[34]⟩, p0, Nat.zero_le _, rfl, rfl, rfl, Lib.hid (by simp), Lib.hid rfl⟩
    case round =>
      obtain ⟨i, z, b, hi, rfl, rfl, rfl, hb, hz⟩ := hrel
      have hzs : z.size ≤ 1 + 3 * s.size := by
        have h1 := esc_room (l := s.data.toList) i
        rw [← len_data, hz.out, List.length_cons]; omega
      by_cases hlt : i < s.size
      · have hg := get_byte s i hlt
        have htk := take_snoc hg
        have hes := esc_snoc hg
        have hx := ext_one s i hlt
        have hw2 : IntKind.i64.wrap ((i : Int) + 1) = ((i + 1 : Nat) : Int) := (IntWalk.i64_in _ (by omega)).trans (by omega)
        have hL1 : ¬ 9223372036854775807 < z.size + 1 := by omega
        have hL2 : ¬ 9223372036854775807 < z.size + 1 + 1 := by omega
        have hal : (p0 && (s.data.toList.take (i + 1)).all (· != 32)) = (b && (s[i] != 32)) := by
          rw [htk, List.all_append, ← Bool.and_assoc, hb.out]; simp
        have h92 : (⟨#[92]⟩ : ByteArray).data.toList = [92] := rfl
        have hone : (⟨[s[i]].toArray⟩ : ByteArray).data.toList = [s[i]] := rfl
        have hnx1 : Hid (escB s[i] = [s[i]] → (z ++ ⟨[s[i]].toArray⟩).data.toList = 34 :: escL (s.data.toList.take (i + 1))) := Lib.hid (fun he => by rw [cat_list, hz.out, hone, hes, he]; rfl)
        have hnx2 : Hid (escB s[i] = [92, s[i]] → (z ++ ⟨#[92]⟩ ++ ⟨[s[i]].toArray⟩).data.toList = 34 :: escL (s.data.toList.take (i + 1))) := Lib.hid (fun he => by rw [cat_list, cat_list, hz.out, hone, h92, hes, he]; simp)
        replace hg := Lib.hid hg
        replace hal := Lib.hid hal
        clear htk hes hb hz
        by_cases h32 : s[i] = 32
        · have hv : s[i].toNat = 32 := by rw [h32]; rfl
          have hq : Hid ((b && (s[i] != 32)) = false) := Lib.hid (by rw [h32]; simp)
          have he : Hid (escB s[i] = [s[i]]) := Lib.hid (by rw [h32]; rfl)
          go_wp2
          refine ⟨⟨i + 1, z ++ ⟨[s[i]].toArray⟩, false, by omega, rfl, by (try simp only [h32]), by congr 1, Lib.hid (by rw [hal.out, hq.out]), Lib.hid (hnx1.out he.out)⟩, by simp [intOf]; omega⟩
        · have hm32 : s[i].toNat ≠ 32 := fun e => h32 (UInt8.toNat_inj.1 e)
          have hn32 : ((s[i].toNat : Int) == 32) = false := by simp; omega
          have hq : Hid ((b && (s[i] != 32)) = b) := Lib.hid (by rw [bne_iff_ne.mpr h32]; simp)
          by_cases h34 : s[i] = 34
          · have hv : s[i].toNat = 34 := by rw [h34]; rfl
            have he : Hid (escB s[i] = [92, s[i]]) := Lib.hid (by rw [h34]; rfl)
            go_wp2
            refine ⟨⟨i + 1, z ++ ⟨#[92]⟩ ++ ⟨[s[i]].toArray⟩, b, by omega, rfl, by (try simp only [h34]), by congr 1, Lib.hid (by rw [hal.out, hq.out]), Lib.hid (hnx2.out he.out)⟩, by simp [intOf]; omega⟩
          · have hm34 : s[i].toNat ≠ 34 := fun e => h34 (UInt8.toNat_inj.1 e)
            have hn34 : ((s[i].toNat : Int) == 34) = false := by simp; omega
            by_cases h92 : s[i] = 92
            · have hv : s[i].toNat = 92 := by rw [h92]; rfl
              have he : Hid (escB s[i] = [92, s[i]]) := Lib.hid (by rw [h92]; rfl)
              go_wp2
              refine ⟨⟨i + 1, z ++ ⟨#[92]⟩ ++ ⟨[s[i]].toArray⟩, b, by omega, rfl, by (try simp only [h92]), by congr 1, Lib.hid (by rw [hal.out, hq.out]), Lib.hid (hnx2.out he.out)⟩, by simp [intOf]; omega⟩
            · have hm92 : s[i].toNat ≠ 92 := fun e => h92 (UInt8.toNat_inj.1 e)
              have hn92 : ((s[i].toNat : Int) == 92) = false := by simp; omega
              have he : Hid (escB s[i] = [s[i]]) := Lib.hid (by unfold escB; rw [if_neg h34, if_neg h92])
              go_wp2
              refine ⟨⟨i + 1, z ++ ⟨[s[i]].toArray⟩, b, by omega, rfl, rfl, by congr 1, Lib.hid (by rw [hal.out, hq.out]), Lib.hid (hnx1.out he.out)⟩, by simp [intOf]; omega⟩
      · obtain rfl : i = s.size := by omega
        have hb2 := hb.out
        have hz2 := hz.out
        rw [List.take_of_length_le (by rw [len_data]; exact Nat.le_refl _)] at hb2 hz2
        have hres := hfin.out b hb2
        have hL1 : ¬ 9223372036854775807 < z.size + 1 := by omega
        cases b with
        | true =>
          rw [if_pos rfl] at hres
          replace hres := Lib.hid hres
          clear hb hz hb2 hz2
          have e1 : Hid ((⟨(wordL s.data.toList).toArray⟩ : ByteArray) = s) := Lib.hid (ba_eq hres.out)
          go_wp2
          go_ret
          exact ⟨by rw [e1.out]; rfl, rfl⟩
        | false =>
          rw [if_neg (by simp)] at hres
          replace hres := Lib.hid hres
          have e1 : Hid ((⟨(wordL s.data.toList).toArray⟩ : ByteArray) = z ++ ⟨#[34]⟩) := Lib.hid (ba_eq (by rw [cat_list, hz2]; exact hres.out))
          clear hb hz hb2 hz2
          go_wp2
          go_ret
          exact ⟨by rw [e1.out]; rfl, rfl⟩
end Go.Proofs.YtnljjlaececnkaaGreatDoor
/-
  The document's Join; printable. Condition: sizes.
-/
namespace Go.Proofs.YtnljjlaececnkaaGreatDoor
open Go.RowKit
set_option linter.unusedVariables false
set_option linter.unusedSimpArgs false
theorem joinT_snoc (r : List (List UInt8)) (x : List UInt8) : Lib.joinTail [32] (r ++ [x]) = Lib.joinTail [32] r ++ 32 :: x := by simp [Lib.joinTail]
def joinA (xs : List ByteArray) (i : Nat) : List UInt8 := Lib.join ((xs.take i).map fun x => wordL x.data.toList) [32]
theorem joinA_next {xs : List ByteArray} {i : Nat} {x : ByteArray} (hx : xs[i]? = some x) : joinA xs (i + 1) = (if i = 0 then [] else joinA xs i ++ [32]) ++ wordL x.data.toList := by
  unfold joinA
  rw [take_snoc hx, List.map_append]
  cases i with
  | zero => simp [Lib.join]
  | succ i =>
    rw [if_neg (by omega)]
    cases xs with
    | nil => simp at hx
    | cons y ys =>
      rw [List.take_succ_cons, List.map_cons, List.cons_append, join_tail, join_tail, List.map_singleton, joinT_snoc]; simp
theorem joinA_mono {xs : List ByteArray} : ∀ (k i : Nat), i + k ≤ xs.length → (joinA xs i).length ≤ (joinA xs (i + k)).length
  | 0, i, _ => Nat.le_refl _
  | k + 1, i, h => by
    refine Nat.le_trans (joinA_mono k i (by omega)) ?_
    obtain ⟨x, hx⟩ : ∃ x, xs[i + k]? = some x := ⟨_, List.getElem?_eq_getElem (by omega)⟩
    rw [← Nat.add_assoc, joinA_next hx]
    by_cases h0 : i + k = 0
    · rw [h0]; simp [joinA, Lib.join]
    · rw [if_neg h0, List.length_append, List.length_append]; omega
theorem joinA_all (xs : List ByteArray) : joinA xs xs.length = (joinB xs).data.toList := by unfold joinA joinB; rw [List.take_length]
set_option maxRecDepth 100000 in
set_option maxHeartbeats 1600000 in
theorem rjoins_row {w : World} {v : Value} {xs : List ByteArray} (hv : SRow w v xs) (hn : xs.length ≤ 1000) (hx : ∀ x ∈ xs, x.size < 4294967281) (hlen : (joinB xs).size ≤ 140737488355328) :
    Calls Tryz.prog 46 #[v] w fun e w' => e = .returned (.string (joinB xs)) ∧ w' = w := by
  obtain ⟨A, c, rfl, hv⟩ := hv
  have Hx := Lib.hid hx
  have hlen2 : ∀ i ≤ xs.length, (joinA xs i).length ≤ 140737488355328 := fun i hi => by
    have := joinA_mono (xs := xs) (xs.length - i) i (by omega)
    rw [show i + (xs.length - i) = xs.length by omega, joinA_all, len_data] at this
    omega
  have Hl := Lib.hid hlen2
  have hall := joinA_all xs
  replace hall := Lib.hid hall
  clear hx hlen hlen2
  have hcell : Hid (∀ (j : Nat) x, xs[j]? = some x → ∃ k o, A = some ⟨k, o, none⟩ ∧ w.cell? ⟨k, o + j, none⟩ = some (.string x)) := Lib.hid (fun j x hj => by
    obtain ⟨k, o, h1, -, h2⟩ := hv (by have := (List.getElem?_eq_some_iff.1 hj).1; omega)
    exact ⟨k, o, h1, h2 j x hj⟩)
  clear hv
  go_enter Tryz.func46, Tryz.ntmps46
  go_wp2
  go_loop [3, 4] (fun x3 x4 => ∃ (i : Nat) (z : ByteArray), i ≤ xs.length ∧ x3 = .string z ∧ x4 = .int .i64 i ∧ Hid (z.data.toList = joinA xs i)) (fun x3 x4 => xs.length - (intOf x4).toNat)
  case atStart => exact ⟨0, ⟨#[]⟩, Nat.zero_le _, rfl, rfl, Lib.hid rfl⟩
  case round =>
    obtain ⟨i, z, hi, rfl, rfl, hz⟩ := hrel
    by_cases hlt : i < xs.length
    · have hg := List.getElem?_eq_getElem hlt
      obtain ⟨k, o, hA, hc⟩ := hcell.out i _ hg
      subst hA
      have hw := fun W => rword_any (w := W) (Hx.out _ (List.mem_of_getElem? hg))
      have hnx := joinA_next hg
      have h1 := Hl.out i hi
      have h2 := Hl.out (i + 1) hlt
      rw [hnx] at h2
      rw [← hz.out, len_data] at h1
      replace hg := Lib.hid hg
      generalize xs[i] = x at *
      obtain ⟨y, hy⟩ : ∃ y : ByteArray, (⟨(wordL x.data.toList).toArray⟩ : ByteArray) = y := ⟨_, rfl⟩
      have hyl : y.data.toList = wordL x.data.toList := by rw [← hy]
      rw [hy] at hw
      rw [← hyl] at h2 hnx
      have hys : y.data.toList.length = y.size := len_data y
      have hs1 : (⟨#[32]⟩ : ByteArray).data.toList = [32] := rfl
      by_cases h0 : i = 0
      · rw [if_pos h0] at hnx h2
        have hzz : z.data.toList = [] := by rw [hz.out, h0]; simp [joinA, Lib.join]
        have hz0 : z.size = 0 := by rw [← len_data, hzz]; rfl
        have hnew : Hid ((z ++ y).data.toList = joinA xs (i + 1)) := Lib.hid (by rw [cat_list, hnx, hzz])
        have hL : ¬ 9223372036854775807 < z.size + y.size := by simp at h2; omega
        have hp : decide ((0 : Int) < (i : Int)) = false := decide_eq_false (by omega)
        have hp2 : ¬ 0 < i := by omega
        replace h0 := Lib.hid h0
        clear hz hnx h2 hyl hzz hy
        go_wp2_with (go_at_call 115; refine (hw _).mono ?_; rintro e w1 ⟨rfl, rfl⟩)
        refine ⟨⟨i + 1, z ++ y, by omega, rfl, by congr 1, hnew⟩, by simp [intOf]; omega⟩
      · rw [if_neg h0] at hnx h2
        have hnew : Hid ((z ++ ⟨#[32]⟩ ++ y).data.toList = joinA xs (i + 1)) := Lib.hid (by rw [cat_list, cat_list, hnx, hz.out, hs1])
        rw [List.length_append, List.length_append, ← hz.out, len_data, hys] at h2
        have hL1 : ¬ 9223372036854775807 < z.size + 1 := by omega
        have hL : ¬ 9223372036854775807 < z.size + 1 + y.size := by simp at h2; omega
        have hp : decide ((0 : Int) < (i : Int)) = true := decide_eq_true (by omega)
        have hp2 : 0 < i := by omega
        replace h0 := Lib.hid h0
        clear hz hnx h2 hyl hy
        go_wp2_with (go_at_call 115; refine (hw _).mono ?_; rintro e w1 ⟨rfl, rfl⟩)
        refine ⟨⟨i + 1, z ++ ⟨#[32]⟩ ++ y, by omega, rfl, by congr 1, hnew⟩, by simp [intOf]; omega⟩
    · obtain rfl : i = xs.length := by omega
      have he : z = joinB xs := ba_eq (by rw [hz.out, hall.out])
      subst he
      clear hz
      go_wp2
      go_ret
      exact ⟨rfl, rfl⟩
/-- May these texts be written? -/
def sumB : List ByteArray → Nat
  | [] => 0
  | x :: r => x.size + sumB r
theorem sumB_snoc : ∀ (l : List ByteArray) (x : ByteArray), sumB (l ++ [x]) = sumB l + x.size
  | [], x => by simp [sumB]
  | y :: l, x => by simp [sumB, sumB_snoc l x, Nat.add_assoc]
theorem sumB_mem : ∀ {l : List ByteArray} {x : ByteArray}, x ∈ l → x.size ≤ sumB l
  | y :: l, x, h => by
    rcases List.mem_cons.1 h with rfl | h
    · simp [sumB]
    · have := sumB_mem h; simp [sumB]; omega
def PrOk (xs : List ByteArray) : Prop := xs.length ≤ 300 ∧ sumB xs ≤ 70000 ∧ ∀ x ∈ xs, ∀ c ∈ x.data.toList, mayB c = true
def PrSaid (xs : List ByteArray) (e : Ending) : Prop := ∃ b, e = .returned (.bool b) ∧ (b = true → PrOk xs)
theorem mayB_iff (c : UInt8) : mayB c = true ↔ 32 ≤ c.toNat ∧ c.toNat ≤ 126 := by
  unfold mayB; simp; omega
set_option maxRecDepth 100000 in
set_option maxHeartbeats 1600000 in
theorem printable_row {w : World} {v : Value} {xs : List ByteArray} (hv : SRow w v xs) (hlen : xs.length ≤ 9223372036854775807) (hx : ∀ x ∈ xs, x.size ≤ 140737488351232) : Calls Tryz.prog 44 #[v] w fun e w' => PrSaid xs e ∧ w' = w := by
  obtain ⟨A, c, rfl, hv⟩ := hv
  have Hx := Lib.hid hx
  have hcell : Hid (∀ (j : Nat) x, xs[j]? = some x → ∃ k o, A = some ⟨k, o, none⟩ ∧ w.cell? ⟨k, o + j, none⟩ = some (.string x)) := Lib.hid (fun j x hj => by
    obtain ⟨k, o, h1, -, h2⟩ := hv (by have := (List.getElem?_eq_some_iff.1 hj).1; omega)
    exact ⟨k, o, h1, h2 j x hj⟩)
  have hsum : Hid (∀ i ≤ xs.length, sumB (xs.take i) ≤ i * 140737488351232) := Lib.hid (fun i => by
    induction i with
    | zero => intro _; simp [sumB]
    | succ i ih =>
      intro h
      have hg := List.getElem?_eq_getElem (l := xs) (i := i) (by omega)
      rw [take_snoc hg, sumB_snoc]
      have := ih (by omega)
      have := hx _ (List.mem_of_getElem? hg)
      omega)
  clear hv hx
  go_enter Tryz.func44, Tryz.ntmps44
  go_wp2
  go_loop [3, 4] (fun x3 x4 => ∃ (i : Nat) (n : Int), i ≤ xs.length ∧ x3 = .int .i64 n ∧ x4 = .int .i64 i ∧ Hid (xs.length ≤ 300 → n = sumB (xs.take i)) ∧ Hid (∀ x ∈ xs.take i, x.size ≤ 70000 → ∀ c ∈ x.data.toList, mayB c = true)) (fun x3 x4 => xs.length - (intOf x4).toNat)
  case atStart => exact ⟨0, 0, Nat.zero_le _, rfl, rfl, Lib.hid (fun _ => by simp [sumB]), Lib.hid (fun x h => by simp at h)⟩
  case round =>
    obtain ⟨i, n, hi, rfl, rfl, hn, hp⟩ := hrel
    by_cases hlt : i < xs.length
    · have hg := List.getElem?_eq_getElem hlt
      obtain ⟨k, o, hA, hc⟩ := hcell.out i _ hg
      subst hA
      have hxs := Hx.out _ (List.mem_of_getElem? hg)
      have htk := Lib.hid (take_snoc hg)
      have hs1 := hsum.out i hi
      have hnn : Hid (xs.length ≤ 300 → IntKind.i64.wrap (n + (xs[i].size : Int)) = sumB (xs.take (i + 1))) := Lib.hid (fun h => by
        rw [hn.out h, htk.out, sumB_snoc]
        have : i ≤ 300 := by omega
        exact (IntWalk.i64_in _ (by omega)).trans (by omega))
      replace hg := Lib.hid hg
      replace hn := Lib.hid hn
      clear hs1
      generalize xs[i] = x at *
      obtain ⟨n', hn'⟩ : ∃ n', IntKind.i64.wrap (n + (x.size : Int)) = n' := ⟨_, rfl⟩
      rw [hn'] at hnn
      go_wp2
      go_loop [5] (fun x5 => ∃ q : Nat, q ≤ x.size ∧ q ≤ 70000 ∧ x5 = .int .i64 q ∧ Hid (∀ c ∈ x.data.toList.take q, mayB c = true)) (fun x5 => x.size - (intOf x5).toNat)
      case atStart => exact ⟨0, Nat.zero_le _, Nat.zero_le _, rfl, Lib.hid (fun c hc => by simp at hc)⟩
      case round =>
        obtain ⟨q, hq1, hq2, rfl, hm⟩ := hrel
        by_cases hlq : q < x.size
        · by_cases hl7 : q < 70000
          · have d7 : decide ((q : Int) < 70000) = true := decide_eq_true (by omega)
            have hg2 := get_byte x q hlq
            have htk2 := Lib.hid (take_snoc hg2)
            replace hg2 := Lib.hid hg2
            have hw2 : IntKind.i64.wrap ((q : Int) + 1) = ((q + 1 : Nat) : Int) := (IntWalk.i64_in _ (by omega)).trans (by omega)
            by_cases h32 : x[q].toNat < 32
            · clear hl7
              have d1 : decide ((x[q].toNat : Int) < 32) = true := decide_eq_true (by omega)
              go_wp2
              go_ret
              exact ⟨⟨false, rfl, fun h => by cases h⟩, rfl⟩
            · have d1 : decide ((x[q].toNat : Int) < 32) = false := decide_eq_false (by omega)
              by_cases h126 : 126 < x[q].toNat
              · clear hl7
                have d2 : decide (126 < (x[q].toNat : Int)) = true := decide_eq_true (by omega)
                go_wp2
                go_ret
                exact ⟨⟨false, rfl, fun h => by cases h⟩, rfl⟩
              · have d2 : decide (126 < (x[q].toNat : Int)) = false := decide_eq_false (by omega)
                have hmq : mayB x[q] = true := (mayB_iff _).2 ⟨by omega, by omega⟩
                have hmn : Hid (∀ c ∈ x.data.toList.take (q + 1), mayB c = true) := Lib.hid (fun c hc => by
                  rw [htk2.out] at hc
                  rcases List.mem_append.1 hc with hc | hc
                  · exact hm.out c hc
                  · simp at hc; subst hc; exact hmq)
                clear hmq
                have hl7' := Lib.hid hl7
                clear hl7
                go_wp2
                have hl7 := hl7'.out
                refine ⟨⟨q + 1, by omega, by omega, by congr 1, hmn⟩, by simp [intOf]; omega⟩
          · have d7 : decide ((q : Int) < 70000) = false := decide_eq_false (by omega)
            have hpn : Hid (∀ y ∈ xs.take (i + 1), y.size ≤ 70000 → ∀ c ∈ y.data.toList, mayB c = true) := Lib.hid (fun y hy hys => by
              rw [htk.out] at hy
              rcases List.mem_append.1 hy with hy | hy
              · exact hp.out y hy hys
              · simp at hy; subst hy; omega)
            have hw3 : IntKind.i64.wrap ((i : Int) + 1) = ((i + 1 : Nat) : Int) := (IntWalk.i64_in _ (by omega)).trans (by omega)
            clear hl7
            go_wp2
            refine ⟨⟨i + 1, n', by omega, rfl, by congr 1, hnn, hpn⟩, by simp [intOf]; omega⟩
        · have hpn : Hid (∀ y ∈ xs.take (i + 1), y.size ≤ 70000 → ∀ c ∈ y.data.toList, mayB c = true) := Lib.hid (fun y hy hys => by
            rw [htk.out] at hy
            rcases List.mem_append.1 hy with hy | hy
            · exact hp.out y hy hys
            · simp at hy; subst hy
              intro c hc
              refine hm.out c ?_
              rw [List.take_of_length_le (by rw [len_data]; omega)]; exact hc)
          have hw3 : IntKind.i64.wrap ((i : Int) + 1) = ((i + 1 : Nat) : Int) := (IntWalk.i64_in _ (by omega)).trans (by omega)
          go_wp2
          refine ⟨⟨i + 1, n', by omega, rfl, by congr 1, hnn, hpn⟩, by simp [intOf]; omega⟩
    · obtain rfl : i = xs.length := by omega
      have hn2 := hn.out
      have hp2 := hp.out
      rw [List.take_length] at hn2 hp2
      have hfin : ∀ b : Bool, (decide (n ≤ 70000) && decide (xs.length ≤ 300)) = b → PrSaid xs (.returned (.bool b)) := fun b hb => ⟨b, rfl, fun h => by
        subst h
        simp only [Bool.and_eq_true, decide_eq_true_eq] at hb
        have h3 := hn2 hb.2
        refine ⟨hb.2, by omega, fun x hx => hp2 x hx ?_⟩
        have := sumB_mem hx; omega⟩
      replace hfin := Lib.hid hfin
      by_cases h7 : n ≤ 70000
      · have d1 : decide (n ≤ 70000) = true := decide_eq_true h7
        by_cases h3 : xs.length ≤ 300
        · have d2 : decide ((xs.length : Int) ≤ 300) = true := decide_eq_true (by omega)
          have hf := Lib.hid (hfin.out true (by rw [d1, decide_eq_true h3]; rfl))
          clear hn2 hp2 hn hp
          go_wp2
          go_ret
          exact ⟨hf.out, rfl⟩
        · have d2 : decide ((xs.length : Int) ≤ 300) = false := decide_eq_false (by omega)
          have hf := Lib.hid (hfin.out false (by rw [d1, decide_eq_false h3]; rfl))
          clear hn2 hp2 hn hp
          go_wp2
          go_ret
          exact ⟨hf.out, rfl⟩
      · have d1 : decide (n ≤ 70000) = false := decide_eq_false h7
        have hf := Lib.hid (hfin.out false (by rw [d1]; rfl))
        clear hn2 hp2 hn hp
        go_wp2
        go_ret
        exact ⟨hf.out, rfl⟩
end Go.Proofs.YtnljjlaececnkaaGreatDoor
/-
  strconv.ParseUint at base 16, of 8 bits. Condition: the variables hold what their initialisers laid; a text is no longer than memory has room for.
-/
namespace Go.Proofs.YtnljjlaececnkaaGreatDoor
open Go.RowKit
set_option linter.unusedVariables false
set_option linter.unusedSimpArgs false
/-- How the digits of base 16 end. -/
def hexM8 (acc : Nat) : List UInt8 → Lib.NumEnd Nat
  | [] => .ok acc
  | c :: r => match hexD c with
    | none => .«syntax»
    | some d => if 255 < acc * 16 + d then .range else hexM8 (acc * 16 + d) r
/-- What the inner function hands back. -/
def hexV8 : Lib.NumEnd Nat → Value
  | .ok u => .tuple #[.int .u64 u, .nilIface]
  | .«syntax» => .tuple #[.int .u64 0, .iface 277 (.int .i64 2)]
  | .range => .tuple #[.int .u64 255, .iface 277 (.int .i64 1)]
set_option maxHeartbeats 8000000 in
set_option maxRecDepth 100000 in
theorem pu_in8 (t : ByteArray) (hne : t.size ≠ 0) (hmax : t.size ≤ 9223372036854775806) (w : World) :
    Calls Tryz.prog 177 #[.string t, .int .i64 16, .int .i64 8] w fun e w' => e = .returned (hexV8 (hexM8 0 t.data.toList)) ∧ w' = Lib.bytesWorld w 5 t := by
  have hemp : t.toList.isEmpty = false := by
    rw [← decide_eq_emptyBytes]
    exact decide_eq_false (fun h => hne (by rw [h]; rfl))
  have hcv := Lib.run_convert_string_bytes (P := Tryz.prog) w 9 150 5 t (u := .string) Tryz.underlying9 Tryz.underlying150 Tryz.underlying5
  have hB : ∀ j, j < t.size → (Lib.bytesWorld w 5 t).cell? ⟨w.heap.size, j, none⟩ = some (.int .u8 (t.data.toList.getD j 0).toNat) := fun j hj => Lib.bytesWorld_cell w 5 t j hj
  obtain ⟨W1, hW1⟩ : ∃ W1, W1 = Lib.bytesWorld w 5 t := ⟨_, rfl⟩
  rw [← hW1] at hcv hB ⊢
  clear hW1
  obtain ⟨bs, hL⟩ : ∃ bs, bs = t.data.toList := ⟨_, rfl⟩
  have hLn : bs.length = t.size := by rw [hL, Lib.size_eq]
  rw [← hL] at hB ⊢
  clear hL
  have hmv : IntKind.u64.wrap (IntKind.u64.wrap 256 - 1) = 255 := by
    rw [IntKind.wrap_u64, IntKind.wrap_u64]
    decide
  go_enter Tryz.func177, Tryz.ntmps177
  go_wp2
  go_loop [12, 13, 101] (fun vu vn vi => ∃ (k acc : Nat) (a : Int), vu = .bool false ∧ vn = .int .u64 a ∧ vi = .int .i64 k ∧ k ≤ t.size ∧ Hid (a = (acc : Int) ∧ acc ≤ 255 ∧ hexM8 0 bs = hexM8 acc (bs.drop k)))
    (fun _ _ vi => t.size - (intOf vi).toNat)
  case atStart => exact ⟨0, 0, 0, rfl, rfl, rfl, by omega, rfl, by omega, rfl⟩
  case round =>
    obtain ⟨k, acc, a, rfl, rfl, rfl, hk, hh⟩ := hrel
    obtain ⟨ha, hacc, hdec⟩ := hh.out
    clear hh
    have a0 : 0 ≤ a := by omega
    have a1 : a ≤ 255 := by omega
    by_cases hkn : k < t.size
    · have hc := hB k hkn
      have hdrop : bs.drop k = bs[k]'(by omega) :: bs.drop (k + 1) := List.drop_eq_getElem_cons (by omega)
      have hget : bs.getD k 0 = bs[k]'(by omega) := by simp [List.getD, List.getElem?_eq_getElem (show k < bs.length by omega)]
      rw [hdrop] at hdec
      rw [hget] at hc
      generalize bs[k]'(by omega) = c at hc hdec
      have hc256 : c.toNat < 256 := c.toNat_lt
      clear hB hdrop hget
      obtain ⟨v, hv, hcase⟩ := hex_cases c
      rcases hcase with ⟨hd0, hd1, hx⟩ | ⟨hd0, hd5, hv0, hv1, hx⟩ | ⟨hx, hd, hvv⟩
      · by_cases hov : 255 < acc * 16 + (c.toNat - 48)
        · have hF : hexM8 acc (c :: bs.drop (k + 1)) = .range := by rw [hexM8, hx]; simp [hov]
          rw [hF] at hdec
          have iov : 255 < a * 16 + ((c.toNat : Int) - 48) := by omega
          clear hacc hF hov ha hx hv
          go_wp2
          go_ret2
          first | exact ⟨rfl, rfl⟩ | exact ⟨by rw [hdec]; rfl, rfl⟩
        · have hF : hexM8 acc (c :: bs.drop (k + 1)) = hexM8 (acc * 16 + (c.toNat - 48)) (bs.drop (k + 1)) := by rw [hexM8, hx]; simp [hov]
          have HN : Hid (a * 16 + ((c.toNat : Int) - 48) = ((acc * 16 + (c.toNat - 48) : Nat) : Int) ∧ acc * 16 + (c.toNat - 48) ≤ 255 ∧ hexM8 0 bs = hexM8 (acc * 16 + (c.toNat - 48)) (bs.drop (k + 1))) := ⟨by omega, by omega, hdec.trans hF⟩
          have iov : a * 16 + ((c.toNat : Int) - 48) ≤ 255 := by omega
          clear hacc hF hov hdec ha hx hv
          go_wp2
          refine ⟨⟨k + 1, acc * 16 + (c.toNat - 48), a * 16 + ((c.toNat : Int) - 48), rfl, (by first | rfl | (congr 1; omega)), (by first | rfl | (congr 1; omega)), by omega, HN⟩, by simp [intOf]; omega⟩
      · have hvd : hexD c = some (v - 87) := hx
        by_cases hov : 255 < acc * 16 + (v - 87)
        · have hF : hexM8 acc (c :: bs.drop (k + 1)) = .range := by rw [hexM8, hx]; simp [hov]
          rw [hF] at hdec
          have iov : 255 < a * 16 + ((v : Int) - 97 + 10) := by omega
          clear hacc hF hov ha hx hvd
          go_wp2_with (go_at_call 217; refine (low_n hv).mono ?_; rintro e w' ⟨rfl, rfl⟩)
          go_ret2
          first | exact ⟨rfl, rfl⟩ | exact ⟨by rw [hdec]; rfl, rfl⟩
        · have hF : hexM8 acc (c :: bs.drop (k + 1)) = hexM8 (acc * 16 + (v - 87)) (bs.drop (k + 1)) := by rw [hexM8, hx]; simp [hov]
          have HN : Hid (a * 16 + ((v : Int) - 97 + 10) = ((acc * 16 + (v - 87) : Nat) : Int) ∧ acc * 16 + (v - 87) ≤ 255 ∧ hexM8 0 bs = hexM8 (acc * 16 + (v - 87)) (bs.drop (k + 1))) := ⟨by omega, by omega, hdec.trans hF⟩
          have iov : a * 16 + ((v : Int) - 97 + 10) ≤ 255 := by omega
          clear hacc hF hov hdec ha hx hvd
          go_wp2_with (go_at_call 217; refine (low_n hv).mono ?_; rintro e w' ⟨rfl, rfl⟩)
          refine ⟨⟨k + 1, acc * 16 + (v - 87), a * 16 + ((v : Int) - 97 + 10), rfl, (by first | rfl | (congr 1; omega)), (by first | rfl | (congr 1; omega)), by omega, HN⟩, by simp [intOf]; omega⟩
      · have hF : hexM8 acc (c :: bs.drop (k + 1)) = .«syntax» := by rw [hexM8, hx]
        rw [hF] at hdec
        clear hacc hF ha hx
        have hvb := bits_lo_u8 .or (c.toNat : Int) 32
        have hvc := bits_hi_u8 .or (c.toNat : Int) 32
        rw [hv] at hvb hvc
        by_cases h95 : c.toNat = 95
        · rw [h95] at hc
          clear hv hvb hvc hvv hd hc256
          clear h95
          have hv : bits .or .u8 95 32 = ((127 : Nat) : Int) := by decide
          go_wp2_with (go_at_call 217; refine (low_n hv).mono ?_; rintro e w' ⟨rfl, rfl⟩)
          go_ret2
          first | exact ⟨rfl, rfl⟩ | exact ⟨by rw [hdec]; rfl, rfl⟩
        · rcases hd with hd | hd <;> rcases hvv with hvv | hvv | ⟨hvv, hv2⟩
          all_goals
            go_wp2_with (go_at_call 217; refine (low_n hv).mono ?_; rintro e w' ⟨rfl, rfl⟩)
            all_goals go_ret2
            all_goals first | exact ⟨rfl, rfl⟩ | exact ⟨by rw [hdec]; rfl, rfl⟩
    · have hkk : k = t.size := by omega
      subst hkk
      have hF : hexM8 acc (bs.drop t.size) = .ok acc := by rw [List.drop_eq_nil_of_le (by omega)]; rfl
      rw [hF] at hdec
      subst ha
      clear hacc hF a0 a1
      go_wp2
      go_ret2
      first | exact ⟨rfl, rfl⟩ | exact ⟨by rw [hdec]; rfl, rfl⟩
/-- ParseUint, where there is a number. -/
theorem pu_ok8 {w : World} {t : ByteArray} {u : Nat} (h0 : t.size ≠ 0) (hs : t.size ≤ 140737488351232) (h : hexM8 0 t.data.toList = .ok u) : Calls Tryz.prog 119 #[.string t, .int .i64 16, .int .i64 8] w fun e w' => e = .returned (.tuple #[.int .u64 u, .nilIface]) ∧ Below w.heap.size w w' := by
  have bel := Lib.bytesWorld_below w 5 t
  have hin := pu_in8 t h0 (by omega) w
  rw [h] at hin
  have hin2 : Calls Tryz.prog 177 #[.string t, .int .i64 16, .int .i64 8] w fun e w' => e = .returned (.tuple #[.int .u64 u, .nilIface]) ∧ w' = Lib.bytesWorld w 5 t := hin
  clear hin
  go_enter Tryz.func119, Tryz.ntmps119
  go_wp2_with (go_at_call 177; refine hin2.mono ?_; rintro e w' ⟨rfl, rfl⟩)
  go_ret2
  exact ⟨rfl, bel⟩
def PuNo8 (e : Ending) : Prop := ∃ (n : Nat) (te : TypeId) (pe : Value), e = .returned (.tuple #[.int .u64 (n : Int), .iface te pe]) ∧ n ≤ 255
/-- .. and where there is none. -/
theorem pu_no8 {w : World} (E : Env w) {t : ByteArray} (hs : t.size ≤ 140737488351232) (h : t.size = 0 ∨ ∀ u, hexM8 0 t.data.toList ≠ .ok u) : Calls Tryz.prog 119 #[.string t, .int .i64 16, .int .i64 8] w fun e w' => PuNo8 e ∧ Below w.heap.size w w' := by
  by_cases h0 : t.size = 0
  · obtain rfl : t = ⟨#[]⟩ := by
      obtain ⟨⟨l⟩⟩ := t
      cases l with
      | nil => rfl
      | cons x l => simp [ByteArray.size] at h0
    obtain ⟨ev1, hv1, he1⟩ := (E.go (Below.refl _ _)).1.es
    replace he1 := Lib.hid he1
    go_enter Tryz.func119, Tryz.ntmps119
    go_wp2_with (first
      | (go_at_call 177; refine (Tryz.internal_strconv_ParseUint_empty 16 8 w).mono ?_; rintro e w' ⟨rfl, rfl⟩)
      | (go_at_call 175; refine (Tryz.strconv_toError_syntax _ _ 16 8 ev1 _ (by decide) hv1 he1.out).mono ?_; rintro e w' ⟨N, rfl, -, -, bel⟩))
    go_ret2
    exact ⟨⟨0, _, _, rfl, by decide⟩, bel⟩
  · have hn := h.resolve_left h0
    have bel0 := Lib.bytesWorld_below w 5 t
    have E1 := E.go bel0
    obtain ⟨ev1, hv1, he1⟩ := E1.1.es
    obtain ⟨ev2, hv2, he2⟩ := E1.1.er
    replace he1 := Lib.hid he1
    replace he2 := Lib.hid he2
    obtain ⟨W1, hW1⟩ : ∃ W1, W1 = Lib.bytesWorld w 5 t := ⟨_, rfl⟩
    have hin := pu_in8 t h0 (by omega) w
    rw [← hW1] at hv1 hv2 bel0 hin
    clear hW1 E1
    cases hm : hexM8 0 t.data.toList with
    | ok u => exact absurd hm (hn u)
    | «syntax» =>
      rw [hm] at hin
      have hin2 : Calls Tryz.prog 177 #[.string t, .int .i64 16, .int .i64 8] w fun e w' => e = .returned (.tuple #[.int .u64 0, .iface 277 (.int .i64 2)]) ∧ w' = W1 := hin
      clear hin
      go_enter Tryz.func119, Tryz.ntmps119
      go_wp2_with (first
        | (go_at_call 177; refine hin2.mono ?_; rintro e w' ⟨rfl, rfl⟩)
        | (go_at_call 175; refine (Tryz.strconv_toError_syntax _ _ 16 8 ev1 _ (by omega) hv1 he1.out).mono ?_; rintro e w' ⟨N, rfl, -, -, bel⟩))
      go_ret2
      exact ⟨⟨0, _, _, rfl, by decide⟩, bel0.trans (bel.mono bel0.size)⟩
    | range =>
      rw [hm] at hin
      have hin2 : Calls Tryz.prog 177 #[.string t, .int .i64 16, .int .i64 8] w fun e w' => e = .returned (.tuple #[.int .u64 255, .iface 277 (.int .i64 1)]) ∧ w' = W1 := hin
      clear hin
      go_enter Tryz.func119, Tryz.ntmps119
      go_wp2_with (first
        | (go_at_call 177; refine hin2.mono ?_; rintro e w' ⟨rfl, rfl⟩)
        | (go_at_call 175; refine (Tryz.strconv_toError_range _ _ 16 8 ev2 _ (by omega) hv2 he2.out).mono ?_; rintro e w' ⟨N, rfl, -, -, bel⟩))
      go_ret2
      exact ⟨⟨255, _, _, rfl, by decide⟩, bel0.trans (bel.mono bel0.size)⟩
theorem hexM8_le : ∀ (l : List UInt8) (acc u : Nat), acc ≤ 255 → hexM8 acc l = .ok u → u ≤ 255
  | [], acc, u, ha, h => by cases h; exact ha
  | c :: r, acc, u, ha, h => by
    unfold hexM8 at h
    split at h
    · cases h
    · split at h
      · cases h
      · exact hexM8_le r _ u (by omega) h
/-- ParseUint of 8 bits: whatever the text. -/
theorem pu8_any {w : World} (E : Env w) {t : ByteArray} (hs : t.size ≤ 140737488351232) : Calls Tryz.prog 119 #[.string t, .int .i64 16, .int .i64 8] w fun e w' => (∃ (n : Nat) (x : Value), e = .returned (.tuple #[.int .u64 (n : Int), x]) ∧ n ≤ 255 ∧ ∀ u, t.size ≠ 0 → hexM8 0 t.data.toList = .ok u → n = u) ∧ Below w.heap.size w w' := by
  by_cases h : t.size = 0 ∨ ∀ u, hexM8 0 t.data.toList ≠ .ok u
  · refine (pu_no8 E hs h).mono fun e w' ⟨⟨n, te, pe, he, hn⟩, bel⟩ => ⟨⟨n, _, he, hn, fun u h0 hu => ?_⟩, bel⟩
    rcases h with h | h
    · exact absurd h h0
    · exact absurd hu (h u)
  · have h0 : t.size ≠ 0 := fun e => h (.inl e)
    have : ∃ u, hexM8 0 t.data.toList = .ok u := Classical.byContradiction fun hn => h (.inr fun u hu => hn ⟨u, hu⟩)
    obtain ⟨u, hu⟩ := this
    refine (pu_ok8 h0 hs hu).mono fun e w' ⟨he, bel⟩ => ⟨⟨u, _, he, hexM8_le _ 0 u (by decide) hu, fun v _ hv => ?_⟩, bel⟩
    rw [hu] at hv; cases hv; rfl
end Go.Proofs.YtnljjlaececnkaaGreatDoor
/-
  Ids: eight bytes; their texts. No condition.
-/
namespace Go.Proofs.YtnljjlaececnkaaGreatDoor
open Go.RowKit
set_option linter.unusedVariables false
set_option linter.unusedSimpArgs false
/-- An id: eight bytes. -/
def isI (a : List Int) : Prop := a.length = 8 ∧ ∀ x ∈ a, 0 ≤ x ∧ x < 256
def oI (a : List Int) : Obj := .cells (nums .u8 a).toArray 68 (0, 0)
def zeroI : List Int := List.replicate 8 0
theorem zeroI_ok : isI zeroI := ⟨rfl, by decide⟩
theorem c68 : Tryz.prog.cellsOf 68 = 8 := by kernel_rfl
theorem size68 : (Tryz.prog.info? 68).map (·.size) = some 8 := by kernel_rfl
theorem z68 : (Tryz.prog.info? 68).bind (·.zero) = some (vA zeroI) := by kernel_rfl
theorem guard68 : Tryz.prog.eqGuardType Tryz.prog.depth 68 = false := by kernel_rfl
theorem info68 {a : List Int} (ha : isI a) : (Tryz.prog.info? 68).map (·.size) = some (nums .u8 a).toArray.size := by
  have : (nums .u8 a).toArray.size = 8 := by simp [nums_length, ha.1]
  rw [this]; exact size68
theorem sizeI {a : List Int} (ha : isI a) : (nums .u8 a).toArray.size = 8 := by simp [nums_length, ha.1]
theorem klI8 {a : List Int} (ha : isI a) (d : Nat) : Tryz.prog.keyLits (d + 1 + 1) 68 (nums .u8 a) = some (a.map (Lit.int .u8)) := by
  unfold Program.keyLits
  simp only [Tryz.underlying68]
  rw [if_pos (by rw [nums_length, ha.1, c68])]
  rw [mapM_some (g := fun i => [Lit.int .u8 (a.getD i 0)]) _ (fun i hi => ?_)]
  · have e : (List.range 8).map (fun i => Lit.int .u8 (a.getD i 0)) = a.map (Lit.int .u8) := by
      rw [← ha.1]
      conv => rhs; rw [← range_getD a]
      rw [List.map_map]; rfl
    rw [Option.map_some, flatten_one (fun i => Lit.int .u8 (a.getD i 0)), e]
  · have hi' : i < a.length := by rw [ha.1]; exact List.mem_range.1 hi
    obtain ⟨x, hx⟩ := get_some hi'
    have e : ((nums .u8 a).drop (i * Tryz.prog.cellsOf 5)).take (Tryz.prog.cellsOf 5) = [.int .u8 x] := by
      rw [c5, Nat.mul_one]
      have h1 := nums_get (k := .u8) hx
      obtain ⟨h2, h3⟩ := List.getElem?_eq_some_iff.1 h1
      rw [List.drop_eq_getElem_cons h2, h3]; rfl
    rw [e, klI Tryz.underlying5 (wf_u8 (ha.2 x (List.mem_of_getElem? hx)))]
    simp [hx]
theorem equalIn_I {a b : List Int} (ha : isI a) (hb : isI b) (w : World) : (Op.equalIn 10000 68 (vA a) (vA b)).run Tryz.prog w = .ok (decide (a = b)) w :=
  eq_deep 2 (by decide) (by kernel_rfl) (form_array Tryz.underlying68 c68 (by rw [nums_length, ha.1])) (form_array Tryz.underlying68 c68 (by rw [nums_length, hb.1])) (klI8 ha 0) (klI8 hb 0) ⟨map_lit_inj, fun h => h ▸ rfl⟩ w
theorem eql_I {a b : List Int} (w : World) (ha : isI a) (hb : isI b) : (binOp .eql 68 (vA a) (vA b)).run Tryz.prog w = .ok (.bool (decide (a = b))) w := by
  have := equalIn_I ha hb w
  unfold vA at *
  rw [run_eql_struct, this]; rfl
theorem neq_I {a b : List Int} (w : World) (ha : isI a) (hb : isI b) : (binOp .neq 68 (vA a) (vA b)).run Tryz.prog w = .ok (.bool (!decide (a = b))) w := by
  have := equalIn_I ha hb w
  unfold vA at *
  rw [run_neq_struct, this]; rfl
theorem ldI {W : World} {g : Nat} {a : List Int} (h : W.heap[g]? = some (oI a)) (ha : isI a) : (loadVar 68 ⟨g, 0, none⟩).run Tryz.prog W = .ok (vA a) W :=
  run_loadVar_mid W g 0 68 (nums .u8 a) _ (row_load h) Tryz.underlying68 rfl (by rw [nums_length, ha.1]; exact size68)
/-! ### texts -/
/-- A byte's text: two digits. -/
def hx2 (x : Int) : List UInt8 := [dig (x.toNat / 16), dig (x.toNat % 16)]
def idS (a : List Int) : List UInt8 := Lib.join (a.map hx2) [58]
/-- A digit of base 16, in small letters. -/
def digL (c : UInt8) : Option Nat := if 48 ≤ c.toNat ∧ c.toNat ≤ 57 then some (c.toNat - 48) else if 97 ≤ c.toNat ∧ c.toNat ≤ 102 then some (c.toNat - 87) else none
theorem digL_fin : ∀ f : Fin 256, (digL (UInt8.ofNat f.val) = none ∨ ((digL (UInt8.ofNat f.val)).getD 0 < 16 ∧ dig ((digL (UInt8.ofNat f.val)).getD 0) = UInt8.ofNat f.val ∧ hexD (UInt8.ofNat f.val) = some ((digL (UInt8.ofNat f.val)).getD 0))) := by decide +kernel
theorem digL_some {c : UInt8} {x : Nat} (h : digL c = some x) : x < 16 ∧ dig x = c ∧ hexD c = some x := by
  have hf := digL_fin ⟨c.toNat, c.toNat_lt⟩
  have e : UInt8.ofNat c.toNat = c := by simp
  simp only [e] at hf
  rw [h] at hf
  exact hf.resolve_left (by simp)
theorem dig_L : ∀ f : Fin 16, digL (dig f.val) = some f.val ∧ dig f.val ≠ 58 := by decide
/-- Two digits as a byte. -/
def pieceV (p : List UInt8) : Option Int := match p with
  | [c, d] => match digL c, digL d with
    | some x, some y => some ((16 * x + y : Nat) : Int)
    | _, _ => none
  | _ => none
theorem pieceV_some {p : List UInt8} {v : Int} (h : pieceV p = some v) : 0 ≤ v ∧ v < 256 ∧ hx2 v = p ∧ hexM8 0 p = .ok v.toNat := by
  unfold pieceV at h
  split at h
  · rename_i c d
    split at h
    · rename_i x y hx hy
      cases h
      obtain ⟨x1, x2, x3⟩ := digL_some hx
      obtain ⟨y1, y2, y3⟩ := digL_some hy
      refine ⟨by omega, by omega, ?_, ?_⟩
      · unfold hx2
        rw [Int.toNat_natCast, show (16 * x + y) / 16 = x by omega, show (16 * x + y) % 16 = y by omega, x2, y2]
      · rw [hexM8, x3]
        simp only
        rw [if_neg (by omega), hexM8, y3]
        simp only
        rw [if_neg (by omega), hexM8, Int.toNat_natCast]
        congr 1; omega
    · cases h
  · cases h
theorem pieceV_hx {v : Int} (h0 : 0 ≤ v) (h1 : v < 256) : pieceV (hx2 v) = some v := by
  have e1 := dig_L ⟨v.toNat / 16, by omega⟩
  have e2 := dig_L ⟨v.toNat % 16, by omega⟩
  unfold pieceV hx2
  simp only [e1.1, e2.1]
  congr 1; omega
theorem hx_no {v : Int} (h0 : 0 ≤ v) (h1 : v < 256) : ∀ c ∈ hx2 v, c ≠ 58 := by
  have e1 := dig_L ⟨v.toNat / 16, by omega⟩
  have e2 := dig_L ⟨v.toNat % 16, by omega⟩
  intro c hc
  unfold hx2 at hc
  rcases List.mem_cons.1 hc with rfl | hc
  · exact e1.2
  · rcases List.mem_cons.1 hc with rfl | hc
    · exact e2.2
    · cases hc
/-- The id of a text. -/
def parseI (s : List UInt8) : Option (List Int) := if (cutL 58 s).length = 8 ∧ ∀ p ∈ cutL 58 s, (pieceV p).isSome = true then some ((cutL 58 s).map fun p => (pieceV p).getD 0) else none
theorem cut_joinI {ps : List (List UInt8)} (h : ∀ p ∈ ps, ∀ c ∈ p, c ≠ 58) : ∀ p, (∀ c ∈ p, c ≠ 58) → cutL 58 (Lib.join (p :: ps) [58]) = p :: ps := by
  induction ps with
  | nil => intro p hp; have := cutL_miss hp; simpa [Lib.join] using this
  | cons q ps ih =>
    intro p hp
    have e : Lib.join (p :: q :: ps) [58] = p ++ 58 :: Lib.join (q :: ps) [58] := by simp [Lib.join]
    rw [e, cutL_at hp, ih (fun r hr => h r (List.mem_cons_of_mem _ hr)) q (h q (List.mem_cons_self ..))]
theorem join_cons (p : List UInt8) {ps : List (List UInt8)} (h : ps ≠ []) : Lib.join (p :: ps) [58] = p ++ 58 :: Lib.join ps [58] := by
  cases ps with
  | nil => exact absurd rfl h
  | cons q ps => simp [Lib.join]
theorem join_cut : ∀ s : List UInt8, Lib.join (cutL 58 s) [58] = s
  | [] => rfl
  | c :: r => by
    have ih := join_cut r
    have hne := cutL_ne 58 r
    unfold cutL
    split
    · rename_i h
      subst h
      rw [join_cons _ hne, ih]; rfl
    · cases hr : cutL 58 r with
      | nil => exact absurd hr hne
      | cons p ps =>
        rw [hr] at ih
        show Lib.join ((c :: p) :: ps) [58] = _
        cases ps with
        | nil => simp [Lib.join] at ih ⊢; exact ih
        | cons q ps =>
          rw [join_cons _ (by simp)] at ih ⊢
          rw [List.cons_append, ih]
theorem cut_id {a : List Int} (ha : isI a) : cutL 58 (idS a) = a.map hx2 := by
  obtain ⟨h8, hb⟩ := ha
  unfold idS
  cases a with
  | nil => simp at h8
  | cons x r =>
    rw [List.map_cons]
    exact cut_joinI (fun p hp => by obtain ⟨y, hy, rfl⟩ := List.mem_map.1 hp; exact hx_no (hb y (List.mem_cons_of_mem _ hy)).1 (hb y (List.mem_cons_of_mem _ hy)).2) _ (hx_no (hb x (List.mem_cons_self ..)).1 (hb x (List.mem_cons_self ..)).2)
theorem parse_id {a : List Int} (ha : isI a) : parseI (idS a) = some a := by
  unfold parseI
  rw [cut_id ha, List.length_map, if_pos ⟨ha.1, fun p hp => by obtain ⟨y, hy, rfl⟩ := List.mem_map.1 hp; rw [pieceV_hx (ha.2 y hy).1 (ha.2 y hy).2]; rfl⟩, List.map_map]
  congr 1
  conv => rhs; rw [← List.map_id a]
  exact List.map_congr_left fun y hy => by show (pieceV (hx2 y)).getD 0 = y; rw [pieceV_hx (ha.2 y hy).1 (ha.2 y hy).2]; rfl
theorem parseI_some {s : List UInt8} {a : List Int} (h : parseI s = some a) : isI a ∧ idS a = s ∧ a.length = (cutL 58 s).length ∧ ∀ (j : Nat) p, (cutL 58 s)[j]? = some p → ∃ v, a[j]? = some v ∧ pieceV p = some v := by
  unfold parseI at h
  split at h
  · rename_i hc
    cases h
    have key : ∀ (j : Nat) p, (cutL 58 s)[j]? = some p → ∃ v, ((cutL 58 s).map fun p => (pieceV p).getD 0)[j]? = some v ∧ pieceV p = some v := fun j p hp => by
      have := hc.2 p (List.mem_of_getElem? hp)
      cases hv : pieceV p with
      | none => rw [hv] at this; cases this
      | some v => exact ⟨v, by rw [List.getElem?_map, hp]; simp [hv], rfl⟩
    have hI : isI ((cutL 58 s).map fun p => (pieceV p).getD 0) := ⟨by rw [List.length_map]; exact hc.1, fun x hx => by
      obtain ⟨p, hp, rfl⟩ := List.mem_map.1 hx
      have := hc.2 p hp
      cases hv : pieceV p with
      | none => rw [hv] at this; cases this
      | some v => have := pieceV_some hv; exact ⟨this.1, this.2.1⟩⟩
    refine ⟨hI, ?_, List.length_map _, key⟩
    unfold idS
    rw [List.map_map, List.map_congr_left (g := id) (fun p hp => ?_), List.map_id]
    · exact join_cut s
    · have := hc.2 p hp
      cases hv : pieceV p with
      | none => rw [hv] at this; cases this
      | some v => show hx2 ((pieceV p).getD 0) = p; rw [hv]; exact (pieceV_some hv).2.2.1
  · cases h
end Go.Proofs.YtnljjlaececnkaaGreatDoor
/-
  An id's text. Condition: the held start.
-/
namespace Go.Proofs.YtnljjlaececnkaaGreatDoor
open Go.RowKit
set_option linter.unusedVariables false
set_option linter.unusedSimpArgs false
theorem hexT_id {n : Nat} (h : n < 256) : hexT (256 + n) = 49 :: hx2 (n : Int) := by
  rw [hexT_big (by omega), hexT_big (by omega), hexT_small (by omega)]
  unfold hx2
  rw [Int.toNat_natCast, show (256 + n) / 16 / 16 = 1 by omega, show (256 + n) / 16 % 16 = n / 16 by omega, show (256 + n) % 16 = n % 16 by omega]
  rfl
theorem idx68 {a : List Int} {j : Nat} {x : Int} (hj : j < 8) (h : a[j]? = some x) (W : World) : (Instr.index 68 (.agg (nums .u8 a).toArray) (.int .i64 (j : Int))).run Tryz.prog W = .ok (.int .u8 x) W := by
  have hc : ((nums .u8 a).toArray)[j]? = some (.int .u8 x) := by rw [List.getElem?_toArray]; exact nums_get h
  unfold Instr.index
  simp only [Sem.run_bind, Sem.run_pure, asIntOf, Result.andThen_ok]
  simp [hj]
  unfold part
  simp [isAgg, hc]
/-- The pieces of an id's text. -/
def idP (a : List Int) : List ByteArray := a.map fun x => ⟨(hx2 x).toArray⟩
theorem idP_list (a : List Int) : (idP a).map (·.data.toList) = a.map hx2 := by unfold idP; rw [List.map_map]; rfl
theorem idS_len {a : List Int} (ha : isI a) : (idS a).length ≤ 24 := by
  have key : ∀ l : List Int, (Lib.join (l.map hx2) [58]).length ≤ 3 * l.length := fun l => by
    induction l with
    | nil => exact Nat.le_refl _
    | cons x r ih =>
      cases r with
      | nil => simp [Lib.join, hx2]
      | cons y r =>
        rw [List.map_cons, join_cons _ (by simp)]
        simp [hx2] at ih ⊢; omega
  have := key a
  rw [ha.1] at this; exact this
set_option maxRecDepth 100000 in
set_option maxHeartbeats 1600000 in
theorem printid_any {w : World} (E : Env w) {a : List Int} (ha : isI a) : Calls Tryz.prog 51 #[vA a] w fun e w' => e = .returned (.string ⟨(idS a).toArray⟩) ∧ Below w.heap.size w w' := by
  have hl := ldI (box1 w (oI a)) ha
  have hbx := Lib.hid (box1 w (oI a))
  have bel0 : Below w.heap.size w (w.alloc (oI a)) := (Below.refl _ _).alloc (Nat.le_refl _) _
  have HA := Lib.hid ha
  have h8 := ha.1
  replace h8 := Lib.hid h8
  have hlen := idS_len ha
  replace hlen := Lib.hid hlen
  clear ha
  unfold vA at hl ⊢
  go_enter Tryz.func51, Tryz.ntmps51
  go_wp2_with (refine wpList_load_mid rfl 68 (.tmp 1) rfl w.heap.size 0 rfl (nums .u8 a) _ (row_load hbx.out) Tryz.underlying68 rfl (info68 HA.out) ?_)
  go_loopw [3, 7] (fun x3 x7 wr => ∃ j : Nat, x7 = .int .i64 j ∧ j ≤ 8 ∧ Hid (wr.ownsRow 0 9 1 x3 j (strs (idP (a.take j)))) ∧ Lo w.heap.size x3 ∧ Below w.heap.size w wr) (fun x3 x7 wr => 8 - (intOf x7).toNat)
  case atStart => exact ⟨0, rfl, Nat.zero_le _, Lib.hid (by simpa [strs, idP] using own_nil _ _ _), Lo.nil _, bel0⟩
  case round =>
    obtain ⟨j, rfl, hj, ho, lo, bel⟩ := hrel
    by_cases hlt : j < 8
    · obtain ⟨x, hx⟩ := get_some (l := a) (j := j) (by rw [h8.out]; exact hlt)
      obtain ⟨x0, x1⟩ := HA.out.2 x (List.mem_of_getElem? hx)
      obtain ⟨n, rfl⟩ : ∃ n : Nat, x = n := ⟨x.toNat, by omega⟩
      have hn : n < 256 := by omega
      have hat := fun W => idx68 hlt hx W
      have hw1 : IntKind.u64.wrap (n : Int) = (n : Int) := IntWalk.u64_in _ (by omega)
      have hw2 : IntKind.u64.wrap (256 + (n : Int)) = ((256 + n : Nat) : Int) := (IntWalk.u64_in _ (by omega)).trans (by omega)
      have hT := hexT_id hn
      obtain ⟨y, hy⟩ : ∃ y : ByteArray, (⟨(hexT (256 + n)).toArray⟩ : ByteArray) = y := ⟨_, rfl⟩
      have hcall := fun W (h : Below w.heap.size w W) => hex_any (w := W) (E.go h).2 (u := 256 + n) (by omega)
      rw [hy] at hcall
      have hyl : y.data.toList = 49 :: hx2 (n : Int) := by rw [← hy, ← hT]
      have hys : y.size = 3 := by rw [← len_data, hyl]; rfl
      have hye : y.extract 1 3 = ⟨(hx2 (n : Int)).toArray⟩ := ba_eq (by rw [ext_list, hyl]; rfl)
      have ht : Hid (strs (idP (a.take (j + 1))) = strs (idP (a.take j)) ++ [.string ⟨(hx2 (n : Int)).toArray⟩]) := Lib.hid (by
        rw [take_snoc hx]; unfold strs idP; rw [List.map_append, List.map_append]; rfl)
      replace hcall := Lib.hid hcall
      clear hT hy hyl hx
      go_wp2_with (first | (go_at_call 121; refine (hcall.out _ bel).mono ?_; rintro e w1 ⟨rfl, bel1⟩; have bel2 := bel.trans (bel1.mono bel.size)) | (at_builtin; refine wpList_app1 rfl (.tmp 10) (.tmp 16) 23 rfl Tryz.underlying23 Tryz.info9 rfl (by decide) (by decide) [.string ⟨(hx2 (n : Int)).toArray⟩] rfl (by intro z hz; simp at hz; subst hz; rfl) rfl (own_below ho.out bel1 (own_lt ho.out)) rfl (by omega) ?_; intro v' w2 ho2 hn2 hf2))
      refine ⟨⟨j + 1, by congr 1, by omega, Lib.hid (by rw [ht.out]; exact ho2), lo.next hn2 bel2.size, bel2.trans (hf2.belowB lo bel2.size)⟩, by simp [intOf]; omega⟩
    · obtain rfl : j = 8 := by omega
      have ho2 := ho.out
      rw [List.take_of_length_le (by rw [h8.out]; exact Nat.le_refl _)] at ho2
      have hjc := join_call (xs := idP a) (sep := ⟨#[58]⟩) (by simp [idP, h8.out]) ho2 (by simp [idP, h8.out]) (by rw [idP_list]; exact Nat.le_trans hlen.out (by decide))
      rw [idP_list] at hjc
      go_wp2_with (go_at_call 114; refine hjc.mono ?_; rintro e w1 ⟨rfl, bel1⟩)
      go_ret
      exact ⟨rfl, bel.trans (bel1.mono bel.size)⟩
end Go.Proofs.YtnljjlaececnkaaGreatDoor
/-
  ParseId. Conditions: the held start; a text is no longer than the program's bound.
-/
namespace Go.Proofs.YtnljjlaececnkaaGreatDoor
open Go.RowKit
set_option linter.unusedVariables false
set_option linter.unusedSimpArgs false
/-- What ParseId answers. -/
def IdR (s : ByteArray) : Value := .tuple #[vA ((parseI s.data.toList).getD zeroI), .bool (parseI s.data.toList).isSome]
theorem IdR_no {s : ByteArray} (h : parseI s.data.toList = none) : IdR s = .tuple #[vA zeroI, .bool false] := by unfold IdR; rw [h]; rfl
theorem IdR_yes {s : ByteArray} {a : List Int} (h : parseI s.data.toList = some a) : IdR s = .tuple #[vA a, .bool true] := by unfold IdR; rw [h]; rfl
theorem cutB_get {c : UInt8} {s p : ByteArray} {j : Nat} (h : (cutB c s)[j]? = some p) : (cutL c s.data.toList)[j]? = some p.data.toList := by
  unfold cutB at h
  rw [List.getElem?_map] at h
  cases hl : (cutL c s.data.toList)[j]? with
  | none => rw [hl] at h; cases h
  | some l => rw [hl] at h; cases h; rfl
/-- The bytes that are read so far. -/
def idQ (a : List Int) (j : Nat) : List Int := a.take j ++ List.replicate (8 - j) 0
theorem idQ_set {a : List Int} {j : Nat} {x : Int} (ha : a.length = 8) (hj : j < 8) (hx : a[j]? = some x) : (idQ a j).set j x = idQ a (j + 1) := by
  unfold idQ
  have hl : (a.take j).length = j := by rw [List.length_take]; omega
  rw [List.set_append_right _ _ (by omega), hl, Nat.sub_self, show 8 - j = (8 - (j + 1)) + 1 by omega, List.replicate_succ, List.set_cons_zero, take_snoc hx, List.append_assoc]; rfl
theorem idQ_all {a : List Int} (ha : a.length = 8) : idQ a 8 = a := by unfold idQ; rw [List.take_of_length_le (by omega)]; simp
theorem isI_set {a : List Int} (ha : isI a) {j : Nat} {x : Int} (h0 : 0 ≤ x) (h1 : x < 256) : isI (a.set j x) :=
  ⟨by rw [List.length_set]; exact ha.1, fun y hy => by
    rcases List.mem_or_eq_of_mem_set hy with hy | rfl
    · exact ha.2 y hy
    · exact ⟨h0, h1⟩⟩
set_option maxRecDepth 100000 in
set_option maxHeartbeats 3200000 in
theorem parseid_any {w : World} (E : Env w) {s : ByteArray} (hs : s.size < 4294967281) : Calls Tryz.prog 49 #[.string s] w fun e w' => e = .returned (IdR s) ∧ Below w.heap.size w w' := by
  obtain ⟨ps, hps⟩ : ∃ ps, pieces s ⟨#[58]⟩ = ps := ⟨_, rfl⟩
  obtain ⟨n, hn⟩ : ∃ n, ps.length = n := ⟨_, rfl⟩
  have hpc : ps = cutB 58 s := by rw [← hps, pieces_eq]
  have hcl : (cutL 58 s.data.toList).length = n := by rw [← hn, hpc]; unfold cutB; rw [List.length_map]
  have bel0 : Below w.heap.size w ((w.alloc (oI zeroI)).alloc (oI zeroI)) := ((Below.refl _ _).alloc (Nat.le_refl _) _).alloc (by simp) _
  have E1 := (E.go bel0).2
  have hsp := split_row E1 (s := s) (sep := ⟨#[58]⟩) hs (by decide) hps hn
  have hz0 := Lib.hid (box21 w (oI zeroI) (oI zeroI))
  have hz1 := Lib.hid (box22 w (oI zeroI) (oI zeroI))
  have hpz : ∀ p ∈ ps, p.size ≤ 140737488351232 := fun p hp => by rw [hpc] at hp; have := piece_size hp; omega
  replace hpz := Lib.hid hpz
  have hpg : Hid (∀ (j : Nat) p, ps[j]? = some p → (cutL 58 s.data.toList)[j]? = some p.data.toList) := Lib.hid (fun j p h => cutB_get (by rw [← hpc]; exact h))
  clear hps hpc
  by_cases h8 : n = 8
  · have hb8 : ((n : Int) == 8) = true := by simp; omega
    have hb8' : ((n : Int) != 8) = false := by rw [h8]; rfl
    have hn8 := Lib.hid h8
    go_enter Tryz.func49, Tryz.ntmps49
    go_wp2_with (first
      | (refine wpList_store_new rfl 68 (.tmp 4) (.tmp 10) rfl rfl rfl (info68 zeroI_ok) (by rw [sizeI zeroI_ok]; rfl) (numsA_one _) ?_)
      | (go_at_call 99; refine hsp.mono ?_; clear hsp; rintro e w1 ⟨⟨g, rfl, hg, hrow⟩, bel1⟩; have bel01 := bel0.trans (bel1.mono bel0.size); have hy0 := Lib.hid (Below.box hz0.out bel1 (lt_of_obj hz0.out)); have hy1 := Lib.hid (Below.box hz1.out bel1 (lt_of_obj hz1.out)); have hrow := Lib.hid hrow; have hg2 : w.heap.size + 2 ≤ g := by simpa using hg))
    go_loopw [19] (fun x19 wr => ∃ (j : Nat) (L : List Int), x19 = .int .i64 j ∧ j ≤ 8 ∧ Hid (isI L) ∧ Hid (wr.heap[w.heap.size]? = some (oI zeroI)) ∧ Hid (wr.heap[w.heap.size + 1]? = some (oI L)) ∧ Hid (wr.heap[g]? = some (.cells (strs ps).toArray 9)) ∧ Hid (∀ a, parseI s.data.toList = some a → L = idQ a j) ∧ Below w.heap.size w wr) (fun x19 wr => 8 - (intOf x19).toNat)
    case atStart => exact ⟨0, zeroI, rfl, Nat.zero_le _, Lib.hid zeroI_ok, hy0, hy1, hrow, Lib.hid (fun a _ => by simp [idQ, zeroI]), bel01⟩
    case round =>
      obtain ⟨j, L, rfl, hj, hI, hz, hr, hp, ha, bel⟩ := hrel
      by_cases hlt : j < 8
      · have hjn : j < n := by omega
        obtain ⟨p, hpj⟩ := get_some (l := ps) (j := j) (by omega)
        have c0 : wr.cell? ⟨g, j, none⟩ = some (.string p) := (row_cell hp.out).trans (by rw [List.getElem?_toArray]; unfold strs; rw [List.getElem?_map, hpj]; rfl)
        have hps := hpz.out p (List.mem_of_getElem? hpj)
        have hcj := hpg.out j p hpj
        have hpu := pu8_any (E.go bel).2 hps
        have hset : Hid (∀ m : Nat, m ≤ 255 → (∀ u, p.size ≠ 0 → hexM8 0 p.data.toList = .ok u → m = u) → ∀ a, parseI s.data.toList = some a → L.set j (m : Int) = idQ a (j + 1)) := Lib.hid (fun m hm hu a hpa => by
          obtain ⟨hIa, -, -, hv⟩ := parseI_some hpa
          obtain ⟨v, hv1, hv2⟩ := hv j _ hcj
          obtain ⟨v0, v1, v2, v3⟩ := pieceV_some hv2
          have hp0 : p.size ≠ 0 := fun e => by
            have : p.data.toList = [] := List.eq_nil_of_length_eq_zero (by rw [len_data]; exact e)
            rw [this] at hv2; cases hv2
          have := hu _ hp0 v3
          rw [ha.out a hpa, this, Int.toNat_of_nonneg v0]
          exact idQ_set hIa.1 hlt hv1)
        have hw2 : IntKind.i64.wrap ((j : Int) + 1) = ((j + 1 : Nat) : Int) := (IntWalk.i64_in _ (by omega)).trans (by omega)
        clear ha hcj
        replace hpj := Lib.hid hpj
        obtain ⟨lj, hlj⟩ := get_some (l := L) (j := j) (by rw [hI.out.1]; exact hlt)
        replace hlj := Lib.hid hlj
        go_wp2_with (go_at_call 119; refine hpu.mono ?_; clear hpu; rintro e w2 ⟨⟨m, x, rfl, hm, hu⟩, bel2⟩; have hm2 := Lib.hid (hset.out m hm hu); have hz2 := Lib.hid (Below.box hz.out bel2 (lt_of_obj hz.out)); have hr2 := Lib.hid (Below.box hr.out bel2 (lt_of_obj hr.out)); have hp2 := Lib.hid (Below.box hp.out bel2 (lt_of_obj hp.out)); have belw := bel.trans (bel2.mono bel.size); have hwm : IntKind.u8.wrap (m : Int) = (m : Int) := IntWalk.u8_in _ (by omega); have c1 : w2.cell? ⟨w.heap.size + 1, j, none⟩ = some (.int .u8 lj) := (row_cell hr2.out).trans (by rw [List.getElem?_toArray]; exact nums_get hlj.out); have f1 : w2.frozen? ⟨w.heap.size + 1, j, none⟩ = false := row_free hr2.out; clear hu hset)
        have fr1 := Fr.setCell (S := fun b => b = w.heap.size + 1) (Fr.refl _ w2) (p := ⟨w.heap.size + 1, j, none⟩) (.inl rfl) (.int .u8 (m : Int))
        refine ⟨⟨j + 1, L.set j (m : Int), by congr 1, by omega, Lib.hid (isI_set hI.out (by omega) (by omega)), Lib.hid (fr1.obj hz2.out (by omega)), Lib.hid (row_set hr2.out (i := j) (cs' := (nums .u8 (L.set j (m : Int))).toArray) (.int .u8 (m : Int)) (by rw [List.setIfInBounds_toArray, nums_set])), Lib.hid (fr1.obj hp2.out (by omega)), hm2, belw.trans (fr1.belowS (fun b hb => by omega) belw.size)⟩, by simp [intOf]; omega⟩
      · obtain rfl : j = 8 := by omega
        have hpr := printid_any (E.go bel).2 hI.out
        cases hpa : parseI s.data.toList with
        | some a =>
          obtain ⟨hIa, hida, -, -⟩ := parseI_some hpa
          have hLa : L = a := by rw [ha.out a hpa, idQ_all hIa.1]
          subst hLa
          have hse : (⟨(idS L).toArray⟩ : ByteArray) = s := ba_eq hida
          rw [hse] at hpr
          have hres := Lib.hid (IdR_yes hpa)
          replace hIa := Lib.hid hIa
          clear ha hpa hida hse hp
          go_wp2_with (first
            | (refine wpList_load_mid rfl 68 (.tmp 4) rfl (w.heap.size + 1) 0 rfl (nums .u8 L) _ (row_load hr.out) Tryz.underlying68 rfl (info68 hIa.out) ?_)
            | (go_at_call 51; refine hpr.mono ?_; clear hpr; rintro e w3 ⟨rfl, bel3⟩; have belw := bel.trans (bel3.mono bel.size); have hz3 := Lib.hid (Below.box hz.out bel3 (lt_of_obj hz.out)); have hr3 := Lib.hid (Below.box hr.out bel3 (lt_of_obj hr.out)))
            | (refine wpList_load_mid rfl 68 (.tmp 4) rfl (w.heap.size + 1) 0 rfl (nums .u8 L) _ (row_load hr3.out) Tryz.underlying68 rfl (info68 hIa.out) ?_)
            | (refine wpList_store_row rfl 68 (.tmp 2) (.tmp 39) rfl w.heap.size _ rfl rfl 68 (nums .u8 zeroI).toArray hz3.out (info68 hIa.out) (by rw [sizeI zeroI_ok, sizeI hIa.out]) (numsA_one _) ?_))
          refine bodyPost_ret (v := .tuple #[vA L, .bool true]) ?_ rfl ⟨by rw [hres.out], below_row belw (Nat.le_refl _) _⟩
          exact results_cell_tmp rfl _ _ rfl (ldI (a := L) (setRow_heap _ _ _ _ _ _ hz3.out) hIa.out) rfl
        | none =>
          obtain ⟨y, hy⟩ : ∃ y : ByteArray, (⟨(idS L).toArray⟩ : ByteArray) = y := ⟨_, rfl⟩
          rw [hy] at hpr
          have hne : y ≠ s := fun e => by
            have h1 : s.data.toList = idS L := by rw [← e, ← hy]
            rw [h1, parse_id hI.out] at hpa; cases hpa
          have hne1 : (y.toList == s.toList) = false := by
            rw [beq_eq_false_iff_ne]; intro e
            rw [Lib.toList_data, Lib.toList_data] at e
            exact hne (ba_eq e)
          have hne2 : (y.toList != s.toList) = true := by show (!(y.toList == s.toList)) = true; rw [hne1]; rfl
          have hres := Lib.hid (IdR_no hpa)
          replace hne := Lib.hid hne
          clear ha hpa hy hp
          go_wp2_with (first
            | (refine wpList_load_mid rfl 68 (.tmp 4) rfl (w.heap.size + 1) 0 rfl (nums .u8 L) _ (row_load hr.out) Tryz.underlying68 rfl (info68 hI.out) ?_)
            | (go_at_call 51; refine hpr.mono ?_; clear hpr; rintro e w3 ⟨rfl, bel3⟩; have belw := bel.trans (bel3.mono bel.size); have hz3 := Lib.hid (Below.box hz.out bel3 (lt_of_obj hz.out)))
            | (refine wpList_store_row rfl 68 (.tmp 2) (.tmp 38) rfl w.heap.size (nums .u8 zeroI).toArray rfl rfl 68 (nums .u8 zeroI).toArray hz3.out (info68 zeroI_ok) rfl (numsA_one _) ?_))
          refine bodyPost_ret (v := .tuple #[vA zeroI, .bool false]) ?_ rfl ⟨by rw [hres.out], below_row belw (Nat.le_refl _) _⟩
          exact results_cell_tmp rfl _ _ rfl (ldI (a := zeroI) (setRow_heap _ _ _ _ _ _ hz3.out) zeroI_ok) rfl
  · have hb8 : ((n : Int) == 8) = false := by simp; omega
    have hb8' : ((n : Int) != 8) = true := by simp; omega
    have hno : parseI s.data.toList = none := by unfold parseI; rw [if_neg (fun h => h8 (by rw [← hcl]; exact h.1))]
    have hres := Lib.hid (IdR_no hno)
    go_enter Tryz.func49, Tryz.ntmps49
    go_wp2_with (first
      | (refine wpList_store_new rfl 68 (.tmp 4) (.tmp 10) rfl rfl rfl (info68 zeroI_ok) (by rw [sizeI zeroI_ok]; rfl) (numsA_one _) ?_)
      | (go_at_call 99; refine hsp.mono ?_; clear hsp; rintro e w1 ⟨⟨g, rfl, hg, hrow⟩, bel1⟩; have bel01 := bel0.trans (bel1.mono bel0.size); have hy0 := Lib.hid (Below.box hz0.out bel1 (lt_of_obj hz0.out)); clear hrow)
      | (refine wpList_store_row rfl 68 (.tmp 2) (.tmp 16) rfl w.heap.size (nums .u8 zeroI).toArray rfl rfl 68 (nums .u8 zeroI).toArray hy0.out (info68 zeroI_ok) rfl (numsA_one _) ?_))
    refine bodyPost_ret (v := .tuple #[vA zeroI, .bool false]) ?_ rfl ⟨by rw [hres.out], below_row bel01 (Nat.le_refl _) _⟩
    exact results_cell_tmp rfl _ _ rfl (ldI (a := zeroI) (setRow_heap _ _ _ _ _ _ hy0.out) zeroI_ok) rfl
end Go.Proofs.YtnljjlaececnkaaGreatDoor
/-
  The document's text of an id; its digit. No condition.
-/
namespace Go.Proofs.YtnljjlaececnkaaGreatDoor
open Go.RowKit
set_option linter.unusedVariables false
set_option linter.unusedSimpArgs false
def digV (c : UInt8) : Int := match digL c with
  | some x => (x : Int)
  | none => -1
theorem rdigit_any {w : World} (c : UInt8) : Calls Tryz.prog 120 #[.int .u8 c.toNat] w fun e w' => e = .returned (.int .i64 (digV c)) ∧ w' = w := by
  have hc := c.toNat_lt
  by_cases h1 : 48 ≤ c.toNat
  · have d1 : decide ((48 : Int) ≤ c.toNat) = true := decide_eq_true (by omega)
    by_cases h2 : c.toNat ≤ 57
    · have d2 : decide ((c.toNat : Int) ≤ 57) = true := decide_eq_true (by omega)
      have hv : digV c = (c.toNat : Int) - 48 := by unfold digV digL; rw [if_pos ⟨h1, h2⟩]; simp; omega
      have hw1 : IntKind.u8.wrap ((c.toNat : Int) - 48) = (c.toNat : Int) - 48 := IntWalk.u8_in _ (by omega)
      have hw2 : IntKind.i64.wrap ((c.toNat : Int) - 48) = (c.toNat : Int) - 48 := IntWalk.i64_in _ (by omega)
      rw [hv]
      clear hv
      go_enter Tryz.func120, Tryz.ntmps120
      go_wp2
      go_ret
      exact ⟨rfl, rfl⟩
    · have d2 : decide ((c.toNat : Int) ≤ 57) = false := decide_eq_false (by omega)
      by_cases h3 : 97 ≤ c.toNat
      · have d3 : decide ((97 : Int) ≤ c.toNat) = true := decide_eq_true (by omega)
        by_cases h4 : c.toNat ≤ 102
        · have d4 : decide ((c.toNat : Int) ≤ 102) = true := decide_eq_true (by omega)
          have hv : digV c = (c.toNat : Int) - 97 + 10 := by unfold digV digL; rw [if_neg (by omega), if_pos ⟨h3, h4⟩]; simp; omega
          have hw1 : IntKind.u8.wrap ((c.toNat : Int) - 97) = (c.toNat : Int) - 97 := IntWalk.u8_in _ (by omega)
          have hw2 : IntKind.i64.wrap ((c.toNat : Int) - 97) = (c.toNat : Int) - 97 := IntWalk.i64_in _ (by omega)
          have hw3 : IntKind.i64.wrap ((c.toNat : Int) - 97 + 10) = (c.toNat : Int) - 97 + 10 := IntWalk.i64_in _ (by omega)
          rw [hv]
          clear hv
          go_enter Tryz.func120, Tryz.ntmps120
          go_wp2
          go_ret
          exact ⟨rfl, rfl⟩
        · have d4 : decide ((c.toNat : Int) ≤ 102) = false := decide_eq_false (by omega)
          have hv : digV c = -1 := by unfold digV digL; rw [if_neg (by omega), if_neg (by omega)]
          rw [hv]
          clear hv
          go_enter Tryz.func120, Tryz.ntmps120
          go_wp2
          go_ret
          exact ⟨rfl, rfl⟩
      · have d3 : decide ((97 : Int) ≤ c.toNat) = false := decide_eq_false (by omega)
        have hv : digV c = -1 := by unfold digV digL; rw [if_neg (by omega), if_neg (by omega)]
        rw [hv]
        clear hv
        go_enter Tryz.func120, Tryz.ntmps120
        go_wp2
        go_ret
        exact ⟨rfl, rfl⟩
  · have d1 : decide ((48 : Int) ≤ c.toNat) = false := decide_eq_false (by omega)
    have d3 : decide ((97 : Int) ≤ c.toNat) = false := decide_eq_false (by omega)
    have hv : digV c = -1 := by unfold digV digL; rw [if_neg (by omega), if_neg (by omega)]
    rw [hv]
    clear hv
    go_enter Tryz.func120, Tryz.ntmps120
    go_wp2
    go_ret
    exact ⟨rfl, rfl⟩
theorem join_snocC (c : UInt8) (x : List UInt8) : ∀ l : List (List UInt8), Lib.join (l ++ [x]) [c] = (if l = [] then [] else Lib.join l [c] ++ [c]) ++ x
  | [] => by simp [Lib.join]
  | [y] => by simp [Lib.join]
  | y :: z :: l => by
    have ih := join_snocC c x (z :: l)
    rw [if_neg (by simp)] at ih ⊢
    have e : ∀ (p q : List UInt8) (r : List (List UInt8)), Lib.join (p :: q :: r) [c] = p ++ c :: Lib.join (q :: r) [c] := fun p q r => by simp [Lib.join]
    rw [List.cons_append, List.cons_append, e, e, ← List.cons_append, ih]; simp
def hexD16 : ByteArray := ⟨#[48, 49, 50, 51, 52, 53, 54, 55, 56, 57, 97, 98, 99, 100, 101, 102]⟩
theorem ext16_fin : ∀ f : Fin 16, (hexD16.extract f.val (f.val + 1)).data.toList = [dig f.val] := by decide +kernel
theorem ext16 {k : Nat} (h : k < 16) : (⟨#[48, 49, 50, 51, 52, 53, 54, 55, 56, 57, 97, 98, 99, 100, 101, 102]⟩ : ByteArray).extract k (k + 1) = ⟨[dig k].toArray⟩ := ba_eq (ext16_fin ⟨k, h⟩)
set_option maxRecDepth 100000 in
set_option maxHeartbeats 1600000 in
theorem rprintid_any {w : World} {a : List Int} (ha : isI a) : Calls Tryz.prog 52 #[vA a] w fun e w' => e = .returned (.string ⟨(idS a).toArray⟩) ∧ Below w.heap.size w w' := by
  have hbx := Lib.hid (box1 w (oI a))
  have bel0 : Below w.heap.size w (w.alloc (oI a)) := (Below.refl _ _).alloc (Nat.le_refl _) _
  have HA := Lib.hid ha
  clear ha
  unfold vA
  go_enter Tryz.func52, Tryz.ntmps52
  go_wp2
  go_loopw [3, 4] (fun x3 x4 wr => ∃ (i : Nat) (z : ByteArray), i ≤ 8 ∧ x3 = .string z ∧ x4 = .int .i64 i ∧ z.size ≤ 3 * i ∧ Hid (z.data.toList = Lib.join ((a.take i).map hx2) [58]) ∧ Hid (wr.heap[w.heap.size]? = some (oI a)) ∧ Below w.heap.size w wr) (fun x3 x4 wr => 8 - (intOf x4).toNat)
  case atStart => exact ⟨0, ⟨#[]⟩, Nat.zero_le _, rfl, rfl, Nat.zero_le _, Lib.hid rfl, hbx, bel0⟩
  case round =>
    obtain ⟨i, z, hi, rfl, rfl, hzs, hz, hb, bel⟩ := hrel
    by_cases hlt : i < 8
    · obtain ⟨x, hx⟩ := get_some (l := a) (j := i) (by rw [HA.out.1]; exact hlt)
      obtain ⟨x0, x1⟩ := HA.out.2 x (List.mem_of_getElem? hx)
      obtain ⟨n, rfl⟩ : ∃ n : Nat, x = n := ⟨x.toNat, by omega⟩
      have hn : n < 256 := by omega
      have c0 : wr.cell? ⟨w.heap.size, i, none⟩ = some (.int .u8 (n : Int)) := (row_cell hb.out).trans (by rw [List.getElem?_toArray]; exact nums_get hx)
      have hq1 : Int.tdiv (n : Int) 16 = ((n / 16 : Nat) : Int) := by rw [Int.tdiv_eq_ediv_of_nonneg (by omega)]; omega
      have hq2 : Int.tmod (n : Int) 16 = ((n % 16 : Nat) : Int) := by rw [Int.tmod_eq_emod_of_nonneg (by omega)]; omega
      have hw1 : IntKind.u8.wrap ((n / 16 : Nat) : Int) = ((n / 16 : Nat) : Int) := IntWalk.u8_in _ (by omega)
      have hw2 : IntKind.u8.wrap ((n % 16 : Nat) : Int) = ((n % 16 : Nat) : Int) := IntWalk.u8_in _ (by omega)
      have hw3 : IntKind.i64.wrap ((n / 16 : Nat) : Int) = ((n / 16 : Nat) : Int) := IntWalk.i64_in _ (by omega)
      have hw4 : IntKind.i64.wrap ((n % 16 : Nat) : Int) = ((n % 16 : Nat) : Int) := IntWalk.i64_in _ (by omega)
      have hd1 := ext16 (k := n / 16) (by omega)
      have hd2 := ext16 (k := n % 16) (by omega)
      have hh : hx2 (n : Int) = [dig (n / 16), dig (n % 16)] := by unfold hx2; rw [Int.toNat_natCast]
      have hnx : Hid (Lib.join ((a.take (i + 1)).map hx2) [58] = (if (a.take i).map hx2 = [] then [] else Lib.join ((a.take i).map hx2) [58] ++ [58]) ++ [dig (n / 16), dig (n % 16)]) := Lib.hid (by
        rw [take_snoc hx, List.map_append, List.map_singleton, join_snocC, hh])
      have hp8 : n / 16 < 16 := by omega
      have hr8 : n % 16 < 16 := by omega
      generalize n / 16 = p at *
      generalize n % 16 = r at *
      have hw5 : IntKind.i64.wrap ((p : Int) + 1) = ((p + 1 : Nat) : Int) := (IntWalk.i64_in _ (by omega)).trans (by omega)
      have hw6 : IntKind.i64.wrap ((r : Int) + 1) = ((r + 1 : Nat) : Int) := (IntWalk.i64_in _ (by omega)).trans (by omega)
      have hw7 : IntKind.i64.wrap ((i : Int) + 1) = ((i + 1 : Nat) : Int) := (IntWalk.i64_in _ (by omega)).trans (by omega)
      clear hh
      by_cases h0 : i = 0
      · have hzz : z.data.toList = [] := by rw [hz.out, h0]; simp [Lib.join]
        have hz0 : z = ⟨#[]⟩ := ba_eq hzz
        subst hz0
        have hnew : Hid (((⟨#[]⟩ : ByteArray) ++ ⟨[dig p].toArray⟩ ++ ⟨[dig r].toArray⟩).data.toList = Lib.join ((a.take (i + 1)).map hx2) [58]) := Lib.hid (by rw [hnx.out, h0]; simp [cat_list])
        have hsz : ((⟨#[]⟩ : ByteArray) ++ ⟨[dig p].toArray⟩ ++ ⟨[dig r].toArray⟩).size ≤ 3 * (i + 1) := by rw [cat_size, cat_size, show (⟨#[]⟩ : ByteArray).size = 0 from rfl, show (⟨[dig p].toArray⟩ : ByteArray).size = 1 from rfl, show (⟨[dig r].toArray⟩ : ByteArray).size = 1 from rfl]; omega
        have hp : decide ((0 : Int) < (i : Int)) = false := decide_eq_false (by omega)
        have hp2 : ¬ 0 < i := by omega
        replace h0 := Lib.hid h0
        replace hx := Lib.hid hx
        replace hsz := Lib.hid hsz
        clear hz hnx hzz
        go_wp2
        go_quiet (fail)
        go_wp2
        go_quiet (fail)
        go_wp2
        refine ⟨⟨i + 1, ⟨#[]⟩ ++ ⟨[dig p].toArray⟩ ++ ⟨[dig r].toArray⟩, by omega, rfl, by congr 1, hsz.out, hnew, hb, below_drewN bel _⟩, by simp [intOf]; omega⟩
      · have hp58 : (⟨#[58]⟩ : ByteArray).data.toList = [58] := rfl
        have hne : (a.take i).map hx2 ≠ [] := fun e => by
          have := congrArg List.length e
          rw [List.length_map, List.length_take, HA.out.1] at this
          simp at this; omega
        have hnew : Hid ((z ++ ⟨#[58]⟩ ++ ⟨[dig p].toArray⟩ ++ ⟨[dig r].toArray⟩).data.toList = Lib.join ((a.take (i + 1)).map hx2) [58]) := Lib.hid (by rw [hnx.out, if_neg hne, cat_list, cat_list, cat_list, hz.out, hp58]; simp)
        have hsz : (z ++ (⟨#[58]⟩ : ByteArray) ++ ⟨[dig p].toArray⟩ ++ ⟨[dig r].toArray⟩).size ≤ 3 * (i + 1) := by rw [cat_size, cat_size, cat_size, show (⟨#[58]⟩ : ByteArray).size = 1 from rfl, show (⟨[dig p].toArray⟩ : ByteArray).size = 1 from rfl, show (⟨[dig r].toArray⟩ : ByteArray).size = 1 from rfl]; omega
        have hp : decide ((0 : Int) < (i : Int)) = true := decide_eq_true (by omega)
        have hp2 : 0 < i := by omega
        have hL1 : ¬ 9223372036854775807 < z.size + 1 := by omega
        have hL2 : ¬ 9223372036854775807 < z.size + 1 + 1 := by omega
        have hL3 : ¬ 9223372036854775807 < z.size + 1 + 1 + 1 := by omega
        have hLs := fun (a b : ByteArray) => cat_size a b
        replace h0 := Lib.hid h0
        replace hx := Lib.hid hx
        replace hsz := Lib.hid hsz
        clear hz hnx hne
        go_wp2
        go_quiet (fail)
        go_wp2
        go_quiet (fail)
        go_wp2
        refine ⟨⟨i + 1, z ++ ⟨#[58]⟩ ++ ⟨[dig p].toArray⟩ ++ ⟨[dig r].toArray⟩, by omega, rfl, by congr 1, hsz.out, hnew, hb, below_drewN bel _⟩, by simp [intOf]; omega⟩
    · obtain rfl : i = 8 := by omega
      have he : z = ⟨(idS a).toArray⟩ := ba_eq (by rw [hz.out, List.take_of_length_le (by rw [HA.out.1]; exact Nat.le_refl _)]; rfl)
      subst he
      clear hz
      go_wp2
      go_ret
      exact ⟨rfl, bel⟩
end Go.Proofs.YtnljjlaececnkaaGreatDoor
/-
  The document's ParseId. Condition: a text is no longer than the program's bound.
-/
namespace Go.Proofs.YtnljjlaececnkaaGreatDoor
open Go.RowKit
set_option linter.unusedVariables false
set_option linter.unusedSimpArgs false
/-- A block is one of two ids. -/
def TwoI (g : Nat) (L M : List Int) (W : World) : Prop := W.heap[g]? = some (oI L) ∨ W.heap[g]? = some (oI M)
theorem TwoI.cell {g : Nat} {L M : List Int} {W : World} (h : TwoI g L M W) (hL : isI L) (hM : isI M) {i : Nat} (hi : i < 8) : (∃ u, W.cell? ⟨g, i, none⟩ = some (.int .u8 u)) ∧ W.frozen? ⟨g, i, none⟩ = false := by
  rcases h with h | h
  · obtain ⟨u, hu⟩ := get_some (l := L) (j := i) (by rw [hL.1]; exact hi)
    exact ⟨⟨u, (row_cell h).trans (by rw [List.getElem?_toArray]; exact nums_get hu)⟩, row_free h⟩
  · obtain ⟨u, hu⟩ := get_some (l := M) (j := i) (by rw [hM.1]; exact hi)
    exact ⟨⟨u, (row_cell h).trans (by rw [List.getElem?_toArray]; exact nums_get hu)⟩, row_free h⟩
theorem TwoI.set {g : Nat} {L : List Int} {W : World} {i : Nat} {v : Int} (h : TwoI g L (L.set i v) W) : (W.setCell ⟨g, i, none⟩ (.int .u8 v)).heap[g]? = some (oI (L.set i v)) := by
  rcases h with h | h
  · exact row_set h (i := i) (cs' := (nums .u8 (L.set i v)).toArray) (.int .u8 v) (by rw [List.setIfInBounds_toArray, nums_set])
  · exact row_set h (i := i) (cs' := (nums .u8 (L.set i v)).toArray) (.int .u8 v) (by rw [List.setIfInBounds_toArray, nums_set, List.set_set])
theorem bx_set {w W : World} {N : Nat} {l : List (Nat × Obj)} (h : Bx w N [] W) {p : Addr} (hp : N ≤ p.block) (v : Value) : Bx w N [] (W.setCell p v) := by
  have fr := Fr.setCell (S := fun b => b = p.block) (Fr.refl _ W) (p := p) (.inl rfl) v
  exact ⟨h.1.trans (fr.belowS (fun b hb => by omega) h.2.2), trivial, Nat.le_trans h.2.2 fr.size⟩
theorem pieceV_two {p : ByteArray} (h2 : p.size = 2) : pieceV p.data.toList = (match digL (p[0]'(by omega)), digL (p[1]'(by omega)) with | some x, some y => some ((16 * x + y : Nat) : Int) | _, _ => none) := by
  have g0 := get_byte p 0 (by omega)
  have g1 := get_byte p 1 (by omega)
  have hl := len_data p
  rw [h2] at hl
  match hq : p.data.toList, hl with
  | [c, d], _ =>
    rw [hq] at g0 g1
    simp at g0 g1
    rw [← g0, ← g1]; rfl
theorem pieceV_long {p : ByteArray} (h2 : p.size ≠ 2) : pieceV p.data.toList = none := by
  have hl := len_data p
  unfold pieceV
  split
  · rename_i c d hq
    rw [hq] at hl; simp at hl; omega
  · rfl
theorem parseI_bad {s p : ByteArray} {j : Nat} (hp : (cutL 58 s.data.toList)[j]? = some p.data.toList) (hv : pieceV p.data.toList = none) : parseI s.data.toList = none := by
  unfold parseI
  exact if_neg fun h => by
    have := h.2 _ (List.mem_of_getElem? hp)
    rw [hv] at this; cases this
theorem parseI_good {s : ByteArray} (h8 : (cutL 58 s.data.toList).length = 8) {a : List Int} (ha : a.length = 8) (h : ∀ j, j < 8 → ∃ p v, (cutL 58 s.data.toList)[j]? = some p ∧ pieceV p = some v ∧ a[j]? = some v) : parseI s.data.toList = some a := by
  have hc : ∀ p ∈ cutL 58 s.data.toList, (pieceV p).isSome = true := fun p hp => by
    obtain ⟨j, hj, rfl⟩ := List.getElem_of_mem hp
    obtain ⟨q, v, h1, h2, -⟩ := h j (by omega)
    rw [List.getElem?_eq_getElem hj] at h1
    rw [Option.some.inj h1, h2]; rfl
  unfold parseI
  rw [if_pos ⟨h8, hc⟩]
  congr 1
  apply List.ext_getElem?
  intro j
  by_cases hj : j < 8
  · obtain ⟨p, v, h1, h2, h3⟩ := h j hj
    rw [List.getElem?_map, h1, h3]; simp [h2]
  · rw [List.getElem?_eq_none (by rw [List.length_map]; omega), List.getElem?_eq_none (by omega)]
set_option maxRecDepth 100000 in
set_option maxHeartbeats 6400000 in
theorem rparseid_any {w : World} {s : ByteArray} (hs : s.size < 4294967281) : Calls Tryz.prog 50 #[.string s] w fun e w' => e = .returned (IdR s) ∧ Below w.heap.size w w' := by
  obtain ⟨n, hn⟩ : ∃ n, (cutB 58 s).length = n := ⟨_, rfl⟩
  have hcl : (cutL 58 s.data.toList).length = n := by rw [← hn]; unfold cutB; rw [List.length_map]
  have hn0 : 0 < n := by rw [← hcl]; exact List.length_pos_iff.2 (cutL_ne _ _)
  have bel0 : Below w.heap.size w (w.alloc (oI zeroI)) := (Below.refl _ _).alloc (Nat.le_refl _) _
  have hz0 := Lib.hid (box1 w (oI zeroI))
  have hcut : ∀ W : World, Calls Tryz.prog 100 #[.string s, .int .u8 58] W fun e w' => (∃ v, e = .returned v ∧ w'.ownsRow 0 9 1 v n (strs (cutB 58 s)) ∧ Lo W.heap.size v) ∧ Below W.heap.size W w' := fun W => by rw [← hn]; exact cut100_any hs 58
  by_cases h8 : n = 8
  · have hb8' : ((n : Int) != 8) = false := by rw [h8]; rfl
    have hn8 := Lib.hid h8
    go_enter Tryz.func50, Tryz.ntmps50
    go_wp2_with (first
      | (go_at_call 100; refine (hcut _).mono ?_; clear hcut; rintro e w1 ⟨⟨v, rfl, hrow, low⟩, bel1⟩; obtain ⟨A, c2, rfl, hc1, hc2⟩ := own_slice hrow; obtain ⟨k, rfl, -, hkl, hcell, -, -⟩ := own_at hrow hn0; have bel01 := bel0.trans (bel1.mono bel0.size); have hy0 := Lib.hid (Below.box hz0.out bel1 (lt_of_obj hz0.out)); have hcell := Lib.hid hcell; clear hrow low)
      | (refine wpList_store_new rfl 68 (.tmp 5) (.tmp 9) rfl rfl rfl (info68 zeroI_ok) (by rw [sizeI zeroI_ok]; rfl) (numsA_one _) ?_))
    go_loopw [6] (fun x6 wr => ∃ (i : Nat) (L : List Int), x6 = .int .i64 i ∧ i ≤ 8 ∧ Hid (isI L) ∧ Hid (Bx w1 w1.heap.size [] wr) ∧ Hid (wr.heap[w1.heap.size]? = some (oI L)) ∧ Hid (∀ j, j < i → ∃ p v, (cutL 58 s.data.toList)[j]? = some p ∧ pieceV p = some v ∧ L[j]? = some v)) (fun x6 wr => 8 - (intOf x6).toNat)
    case atStart => exact ⟨0, zeroI, rfl, Nat.zero_le _, Lib.hid zeroI_ok, Lib.hid ⟨(Below.refl _ _).alloc (Nat.le_refl _) _, trivial, by simp⟩, Lib.hid (box1 w1 (oI zeroI)), Lib.hid (fun j h => by omega)⟩
    case round =>
      obtain ⟨i, L, rfl, hi, hI, hbx, hr, hall⟩ := hrel
      have hyr := Lib.hid (Below.box hy0.out hbx.out.1 (lt_of_obj hy0.out))
      have belr := bel01.trans (hbx.out.1.mono bel01.size)
      by_cases hlt : i < 8
      · obtain ⟨p, hpj⟩ := get_some (l := cutB 58 s) (j := i) (by omega)
        have cp : w1.cell? ⟨k, i, none⟩ = some (.string p) := hcell.out i _ (by unfold strs; rw [List.getElem?_map, hpj]; rfl)
        have c0 : wr.cell? ⟨k, i, none⟩ = some (.string p) := (Below.cell (p := ⟨k, i, none⟩) hbx.out.1 hkl).trans cp
        have hcj := cutB_get hpj
        replace hpj := Lib.hid hpj
        have hw2 : IntKind.i64.wrap ((i : Int) + 1) = ((i + 1 : Nat) : Int) := (IntWalk.i64_in _ (by omega)).trans (by omega)
        by_cases h2 : p.size = 2
        · have hb2 : ((p.size : Int) != 2) = false := by rw [h2]; rfl
          have hp0 : 0 < p.size := by omega
          have hp1 : 1 < p.size := by omega
          have hpv := pieceV_two h2
          have k0 := fun W => rdigit_any (w := W) p[0]
          have k1 := fun W => rdigit_any (w := W) p[1]
          cases hd0 : digL p[0] with
          | none =>
            rw [hd0] at hpv
            have hres := Lib.hid (IdR_no (parseI_bad hcj hpv))
            have hv0 : digV p[0] = -1 := by unfold digV; rw [hd0]
            rw [hv0] at k0
            clear hpv hd0 hv0 hcj k1
            go_wp2_with (first
              | (go_at_call 120; refine (k0 _).mono ?_; rintro e w2 ⟨rfl, hw⟩; replace hw := hw.symm; subst hw)
              | (refine wpList_store_row rfl 68 (.tmp 2) (.tmp 42) rfl w.heap.size (nums .u8 zeroI).toArray rfl rfl 68 (nums .u8 zeroI).toArray hyr.out (info68 zeroI_ok) rfl (numsA_one _) ?_))
            refine bodyPost_ret (v := .tuple #[vA zeroI, .bool false]) ?_ rfl ⟨by rw [hres.out], below_row belr (Nat.le_refl _) _⟩
            exact results_cell_tmp rfl _ _ rfl (ldI (a := zeroI) (setRow_heap _ _ _ _ _ _ hyr.out) zeroI_ok) rfl
          | some x =>
            rw [hd0] at hpv
            have hx16 := (digL_some hd0).1
            have hv0 : digV p[0] = (x : Int) := by unfold digV; rw [hd0]
            rw [hv0] at k0
            cases hd1 : digL p[1] with
            | none =>
              rw [hd1] at hpv
              have hres := Lib.hid (IdR_no (parseI_bad hcj hpv))
              have hv1 : digV p[1] = -1 := by unfold digV; rw [hd1]
              rw [hv1] at k1
              have hxn : decide ((x : Int) < 0) = false := decide_eq_false (by omega)
              clear hpv hd0 hv0 hd1 hv1 hcj
              go_wp2_with (first
                | (go_at_call 120; (first | with_reducible refine (k0 _).mono ?_ | with_reducible refine (k1 _).mono ?_); rintro e w2 ⟨rfl, hw⟩; replace hw := hw.symm; subst hw)
                | (refine wpList_store_row rfl 68 (.tmp 2) (.tmp 42) rfl w.heap.size (nums .u8 zeroI).toArray rfl rfl 68 (nums .u8 zeroI).toArray hyr.out (info68 zeroI_ok) rfl (numsA_one _) ?_))
              refine bodyPost_ret (v := .tuple #[vA zeroI, .bool false]) ?_ rfl ⟨by rw [hres.out], below_row belr (Nat.le_refl _) _⟩
              exact results_cell_tmp rfl _ _ rfl (ldI (a := zeroI) (setRow_heap _ _ _ _ _ _ hyr.out) zeroI_ok) rfl
            | some y =>
              rw [hd1] at hpv
              have hy16 := (digL_some hd1).1
              have hv1 : digV p[1] = (y : Int) := by unfold digV; rw [hd1]
              rw [hv1] at k1
              have hxn : decide ((x : Int) < 0) = false := decide_eq_false (by omega)
              have hyn : decide ((y : Int) < 0) = false := decide_eq_false (by omega)
              have m1 : IntKind.i64.wrap (16 * (x : Int)) = 16 * (x : Int) := IntWalk.i64_in _ (by omega)
              have m2 : IntKind.i64.wrap (16 * (x : Int) + (y : Int)) = ((16 * x + y : Nat) : Int) := (IntWalk.i64_in _ (by omega)).trans (by omega)
              have m3 : IntKind.u8.wrap ((16 * x + y : Nat) : Int) = ((16 * x + y : Nat) : Int) := IntWalk.u8_in _ (by omega)
              have hvn : 16 * x + y < 256 := by omega
              have hpv2 : Hid (pieceV p.data.toList = some ((16 * x + y : Nat) : Int)) := Lib.hid hpv
              generalize 16 * x + y = v at *
              have hI2 : isI (L.set i (v : Int)) := isI_set hI.out (by omega) (by omega)
              have hst : Bx w1 w1.heap.size [] wr ∧ TwoI w1.heap.size L (L.set i (v : Int)) wr := ⟨hbx.out, .inl hr.out⟩
              have hall2 : Hid (∀ j, j < i + 1 → ∃ p v', (cutL 58 s.data.toList)[j]? = some p ∧ pieceV p = some v' ∧ (L.set i (v : Int))[j]? = some v') := Lib.hid (fun j hj => by
                by_cases hji : j = i
                · subst hji
                  exact ⟨_, _, hcj, hpv2.out, List.getElem?_set_self (by rw [hI.out.1]; exact hlt)⟩
                · obtain ⟨q, u, h1, h2, h3⟩ := hall.out j (by omega)
                  exact ⟨q, u, h1, h2, by rw [List.getElem?_set_ne (by omega)]; exact h3⟩)
              have HI := Lib.hid hI2
              replace hst := Lib.hid hst
              clear hpv hpv2 hd0 hv0 hd1 hv1 hcj hall hI2
              go_wp2_with (go_at_call 120; (first | with_reducible refine (k0 _).mono ?_ | with_reducible refine (k1 _).mono ?_); rintro e w2 ⟨rfl, hw⟩; replace hw := hw.symm; subst hw)
              refine wp_region_held_drew (S := (fun W => Bx w1 w1.heap.size [] W ∧ TwoI w1.heap.size L (L.set i (v : Int)) W)) (by kernel_rfl) (⟨Bx.drew hst.out.1, hst.out.2⟩) (fun hHeld => ?_)
              refine wpAnyH_take (i := 0) (oi := { dst := (some 43), op := (Op.move (Operand.tmp 6)), type := 3, pos := "ref.go:184", after := #[], guard := none }) (v := ?_) rfl (by kernel_rfl) (by kernel_rfl) (by kernel_rfl) (fun _ _ _ h => h) (Or.inl ⟨by rfl, ?_⟩) (by assumption) ?_
              rotate_left
              · intro w hSw
                (try dsimp only at hSw)
                go_simp
                with_reducible rfl
              (try simp only [Act.put, List.setIfInBounds_toArray, List.set_cons_zero, List.set_cons_succ])
              refine wpAnyH_take (i := 1) (oi := { dst := (some 44), op := (Op.move (Operand.tmp 4)), type := 23, pos := "ref.go:184", after := #[], guard := none }) (v := ?_) rfl (by kernel_rfl) (by kernel_rfl) (by kernel_rfl) (fun _ _ _ h => h) (Or.inl ⟨by rfl, ?_⟩) (by assumption) ?_
              rotate_left
              · intro w hSw
                (try dsimp only at hSw)
                go_simp
                with_reducible rfl
              (try simp only [Act.put, List.setIfInBounds_toArray, List.set_cons_zero, List.set_cons_succ])
              refine wpAnyH_take (i := 2) (oi := { dst := (some 45), op := (Op.move (Operand.tmp 6)), type := 3, pos := "ref.go:184", after := #[], guard := none }) (v := ?_) rfl (by kernel_rfl) (by kernel_rfl) (by kernel_rfl) (fun _ _ _ h => h) (Or.inl ⟨by rfl, ?_⟩) (by assumption) ?_
              rotate_left
              · intro w hSw
                (try dsimp only at hSw)
                go_simp
                with_reducible rfl
              (try simp only [Act.put, List.setIfInBounds_toArray, List.set_cons_zero, List.set_cons_succ])
              refine wpAnyH_take (i := 3) (oi := { dst := (some 46), op := (Op.indexAddr 23 (Operand.tmp 44) (Operand.tmp 45)), type := 0, pos := "ref.go:184", after := #[{ on := 1, ground := Ground.data }, { on := 2, ground := Ground.data }], guard := none }) (v := ?_) rfl (by kernel_rfl) (by kernel_rfl) (by kernel_rfl) (fun _ _ _ h => h) (Or.inl ⟨by rfl, ?_⟩) (by assumption) ?_
              rotate_left
              · intro w hSw
                (try dsimp only at hSw)
                go_simp
                with_reducible rfl
              (try simp only [Act.put, List.setIfInBounds_toArray, List.set_cons_zero, List.set_cons_succ])
              refine wpAnyH_take (i := 4) (oi := { dst := (some 47), op := (Op.load 9 (Operand.tmp 46)), type := 9, pos := "ref.go:184", after := #[{ on := 3, ground := Ground.data }], guard := none }) (v := .string p) rfl (by kernel_rfl) (by kernel_rfl) (by kernel_rfl) (fun _ _ _ h => h) (Or.inl ⟨by rfl, fun W hW => ?_⟩) (by assumption) ?_
              · have c1 := (Below.cell (p := ⟨k, i, none⟩) hW.1.1 hkl).trans cp
                go_simp
              (try simp only [Act.put, List.setIfInBounds_toArray, List.set_cons_zero, List.set_cons_succ])
              refine wpAnyH_take (i := 5) (oi := { dst := (some 48), op := (Op.index 9 (Operand.tmp 47) (Operand.const (Value.int IntKind.i64 0))), type := 5, pos := "ref.go:184", after := #[{ on := 4, ground := Ground.data }], guard := none }) (v := ?_) rfl (by kernel_rfl) (by kernel_rfl) (by kernel_rfl) (fun _ _ _ h => h) (Or.inl ⟨by rfl, ?_⟩) (by assumption) ?_
              rotate_left
              · intro w hSw
                (try dsimp only at hSw)
                go_simp
                with_reducible rfl
              (try simp only [Act.put, List.setIfInBounds_toArray, List.set_cons_zero, List.set_cons_succ])
              refine wpAnyH_take (i := 8) (oi := { dst := (some 51), op := (Op.move (Operand.tmp 4)), type := 23, pos := "ref.go:184", after := #[], guard := none }) (v := ?_) rfl (by kernel_rfl) (by kernel_rfl) (by kernel_rfl) (fun _ _ _ h => h) (Or.inl ⟨by rfl, ?_⟩) (by assumption) ?_
              rotate_left
              · intro w hSw
                (try dsimp only at hSw)
                go_simp
                with_reducible rfl
              (try simp only [Act.put, List.setIfInBounds_toArray, List.set_cons_zero, List.set_cons_succ])
              refine wpAnyH_take (i := 9) (oi := { dst := (some 52), op := (Op.move (Operand.tmp 6)), type := 3, pos := "ref.go:184", after := #[], guard := none }) (v := ?_) rfl (by kernel_rfl) (by kernel_rfl) (by kernel_rfl) (fun _ _ _ h => h) (Or.inl ⟨by rfl, ?_⟩) (by assumption) ?_
              rotate_left
              · intro w hSw
                (try dsimp only at hSw)
                go_simp
                with_reducible rfl
              (try simp only [Act.put, List.setIfInBounds_toArray, List.set_cons_zero, List.set_cons_succ])
              refine wpAnyH_take (i := 10) (oi := { dst := (some 53), op := (Op.indexAddr 23 (Operand.tmp 51) (Operand.tmp 52)), type := 0, pos := "ref.go:184", after := #[{ on := 8, ground := Ground.data }, { on := 9, ground := Ground.data }], guard := none }) (v := ?_) rfl (by kernel_rfl) (by kernel_rfl) (by kernel_rfl) (fun _ _ _ h => h) (Or.inl ⟨by rfl, ?_⟩) (by assumption) ?_
              rotate_left
              · intro w hSw
                (try dsimp only at hSw)
                go_simp
                with_reducible rfl
              (try simp only [Act.put, List.setIfInBounds_toArray, List.set_cons_zero, List.set_cons_succ])
              refine wpAnyH_take (i := 11) (oi := { dst := (some 54), op := (Op.load 9 (Operand.tmp 53)), type := 9, pos := "ref.go:184", after := #[{ on := 10, ground := Ground.data }], guard := none }) (v := .string p) rfl (by kernel_rfl) (by kernel_rfl) (by kernel_rfl) (fun _ _ _ h => h) (Or.inl ⟨by rfl, fun W hW => ?_⟩) (by assumption) ?_
              · have c1 := (Below.cell (p := ⟨k, i, none⟩) hW.1.1 hkl).trans cp
                go_simp
              (try simp only [Act.put, List.setIfInBounds_toArray, List.set_cons_zero, List.set_cons_succ])
              refine wpAnyH_take (i := 12) (oi := { dst := (some 55), op := (Op.index 9 (Operand.tmp 54) (Operand.const (Value.int IntKind.i64 1))), type := 5, pos := "ref.go:184", after := #[{ on := 11, ground := Ground.data }], guard := none }) (v := ?_) rfl (by kernel_rfl) (by kernel_rfl) (by kernel_rfl) (fun _ _ _ h => h) (Or.inl ⟨by rfl, ?_⟩) (by assumption) ?_
              rotate_left
              · intro w hSw
                (try dsimp only at hSw)
                go_simp
                with_reducible rfl
              (try simp only [Act.put, List.setIfInBounds_toArray, List.set_cons_zero, List.set_cons_succ])
              refine wpAnyH_ready (rs := [6]) (by kernel_rfl) (by simp) ?_
              refine AllReadyH.cons (o := { dst := (some 49), op := (Op.call { callee := (Callee.value (Operand.func 120)), args := #[(Operand.tmp 48)], argTypes := #[5] }), type := 3, pos := "ref.go:184", after := #[{ on := 5, ground := Ground.data }], guard := none }) rfl (fun K hK => ?_) AllReadyH.nil
              go_simp
              (first | with_reducible refine (k0 _).mono ?_ | with_reducible refine (k1 _).mono ?_)
              rintro e w2 ⟨rfl, rfl⟩
              refine hK.out _ _ ?_ (fun hHeld => ?_)
              · exact hHeld
              clear hK K
              (try simp only [Act.put, List.setIfInBounds_toArray, List.set_cons_zero, List.set_cons_succ])
              refine wpAnyH_take (i := 7) (oi := { dst := (some 50), op := (Op.binOp BinOp.mul 3 (Operand.const (Value.int IntKind.i64 16)) (Operand.tmp 49) 3), type := 3, pos := "ref.go:184", after := #[{ on := 6, ground := Ground.data }], guard := none }) (v := ?_) rfl (by kernel_rfl) (by kernel_rfl) (by kernel_rfl) (fun _ _ _ h => h) (Or.inl ⟨by rfl, ?_⟩) (by assumption) ?_
              rotate_left
              · intro w hSw
                (try dsimp only at hSw)
                go_simp
                with_reducible rfl
              (try simp only [Act.put, List.setIfInBounds_toArray, List.set_cons_zero, List.set_cons_succ])
              refine wpAnyH_ready (rs := [13]) (by kernel_rfl) (by simp) ?_
              refine AllReadyH.cons (o := { dst := (some 56), op := (Op.call { callee := (Callee.value (Operand.func 120)), args := #[(Operand.tmp 55)], argTypes := #[5] }), type := 3, pos := "ref.go:184", after := #[{ on := 12, ground := Ground.data }, { on := 6, ground := Ground.chain }], guard := none }) rfl (fun K hK => ?_) AllReadyH.nil
              go_simp
              (first | with_reducible refine (k1 _).mono ?_ | with_reducible refine (k0 _).mono ?_)
              rintro e w2 ⟨rfl, rfl⟩
              refine hK.out _ _ ?_ (fun hHeld => ?_)
              · exact hHeld
              clear hK K
              (try simp only [Act.put, List.setIfInBounds_toArray, List.set_cons_zero, List.set_cons_succ])
              refine wpAnyH_take (i := 14) (oi := { dst := (some 57), op := (Op.binOp BinOp.add 3 (Operand.tmp 50) (Operand.tmp 56) 3), type := 3, pos := "ref.go:184", after := #[{ on := 7, ground := Ground.data }, { on := 13, ground := Ground.data }], guard := none }) (v := ?_) rfl (by kernel_rfl) (by kernel_rfl) (by kernel_rfl) (fun _ _ _ h => h) (Or.inl ⟨by rfl, ?_⟩) (by assumption) ?_
              rotate_left
              · intro w hSw
                (try dsimp only at hSw)
                go_simp
                with_reducible rfl
              (try simp only [Act.put, List.setIfInBounds_toArray, List.set_cons_zero, List.set_cons_succ])
              refine wpAnyH_take (i := 15) (oi := { dst := (some 58), op := (Op.convert 3 5 (Operand.tmp 57)), type := 5, pos := "ref.go:184", after := #[{ on := 14, ground := Ground.data }], guard := none }) (v := ?_) rfl (by kernel_rfl) (by kernel_rfl) (by kernel_rfl) (fun _ _ _ h => h) (Or.inl ⟨by rfl, ?_⟩) (by assumption) ?_
              rotate_left
              · intro w hSw
                (try dsimp only at hSw)
                go_simp
                with_reducible rfl
              (try simp only [Act.put, List.setIfInBounds_toArray, List.set_cons_zero, List.set_cons_succ])
              refine wpAnyH_take (i := 16) (oi := { dst := (some 59), op := (Op.indexAddr 68 (Operand.tmp 5) (Operand.tmp 43)), type := 0, pos := "ref.go:184", after := #[{ on := 0, ground := Ground.data }, { on := 0, ground := Ground.phase }, { on := 1, ground := Ground.phase }, { on := 2, ground := Ground.phase }, { on := 3, ground := Ground.phase }, { on := 4, ground := Ground.phase }, { on := 5, ground := Ground.phase }, { on := 6, ground := Ground.phase }, { on := 7, ground := Ground.phase }, { on := 8, ground := Ground.phase }, { on := 9, ground := Ground.phase }, { on := 10, ground := Ground.phase }, { on := 11, ground := Ground.phase }, { on := 12, ground := Ground.phase }, { on := 13, ground := Ground.phase }, { on := 14, ground := Ground.phase }, { on := 15, ground := Ground.phase }], guard := none }) (v := ?_) rfl (by kernel_rfl) (by kernel_rfl) (by kernel_rfl) (fun _ _ _ h => h) (Or.inl ⟨by rfl, ?_⟩) (by assumption) ?_
              rotate_left
              · intro w hSw
                (try dsimp only at hSw)
                go_simp
                with_reducible rfl
              (try simp only [Act.put, List.setIfInBounds_toArray, List.set_cons_zero, List.set_cons_succ])
              refine wpAnyH_ready (rs := [17]) (by kernel_rfl) (by simp) ?_
              refine AllReadyH.cons (o := { dst := none, op := (Op.store 5 (Operand.tmp 59) (Operand.tmp 58)), type := 0, pos := "ref.go:184", after := #[{ on := 16, ground := Ground.data }, { on := 15, ground := Ground.data }, { on := 13, ground := Ground.chain }, { on := 0, ground := Ground.phase }, { on := 1, ground := Ground.phase }, { on := 2, ground := Ground.phase }, { on := 3, ground := Ground.phase }, { on := 4, ground := Ground.phase }, { on := 5, ground := Ground.phase }, { on := 6, ground := Ground.phase }, { on := 7, ground := Ground.phase }, { on := 8, ground := Ground.phase }, { on := 9, ground := Ground.phase }, { on := 10, ground := Ground.phase }, { on := 11, ground := Ground.phase }, { on := 12, ground := Ground.phase }, { on := 13, ground := Ground.phase }, { on := 14, ground := Ground.phase }, { on := 15, ground := Ground.phase }], guard := none }) rfl (fun K hK => ?_) AllReadyH.nil
              obtain ⟨⟨uS, cS⟩, fS⟩ := hHeld.2.cell hI.out HI.out hlt
              have hNew := Lib.hid (hHeld.2.set)
              have hBxN := Lib.hid (bx_set (l := []) hHeld.1 (p := ⟨w1.heap.size, i, none⟩) (Nat.le_refl _) (.int .u8 (v : Int)))
              go_simp
              refine hK.out _ _ ?_ (fun hHeld => ?_)
              · exact ⟨hBxN.out, .inr hNew.out⟩
              clear hK K
              (try simp only [Act.put, List.setIfInBounds_toArray, List.set_cons_zero, List.set_cons_succ])
              refine wpAnyH_done (by kernel_rfl) ?_ _
              go_wp2_with fail
              refine ⟨⟨i + 1, L.set i (v : Int), by congr 1, by omega, HI, hBxN, hNew, hall2⟩, by simp [intOf]; omega⟩
        · have hb2 : ((p.size : Int) != 2) = true := by simp; omega
          have hres := Lib.hid (IdR_no (parseI_bad hcj (pieceV_long h2)))
          replace h2 := Lib.hid h2
          clear hcj
          go_wp2_with (refine wpList_store_row rfl 68 (.tmp 2) (.tmp 42) rfl w.heap.size (nums .u8 zeroI).toArray rfl rfl 68 (nums .u8 zeroI).toArray hyr.out (info68 zeroI_ok) rfl (numsA_one _) ?_)
          refine bodyPost_ret (v := .tuple #[vA zeroI, .bool false]) ?_ rfl ⟨by rw [hres.out], below_row belr (Nat.le_refl _) _⟩
          exact results_cell_tmp rfl _ _ rfl (ldI (a := zeroI) (setRow_heap _ _ _ _ _ _ hyr.out) zeroI_ok) rfl
      · obtain rfl : i = 8 := by omega
        have hres := Lib.hid (IdR_yes (parseI_good (by rw [hcl]; exact hn8.out) hI.out.1 hall.out))
        clear hall
        go_wp2_with (first
          | (refine wpList_load_mid rfl 68 (.tmp 5) rfl w1.heap.size 0 rfl (nums .u8 L) _ (row_load hr.out) Tryz.underlying68 rfl (info68 hI.out) ?_)
          | (refine wpList_store_row rfl 68 (.tmp 2) (.tmp 60) rfl w.heap.size _ rfl rfl 68 (nums .u8 zeroI).toArray hyr.out (info68 hI.out) (by rw [sizeI zeroI_ok, sizeI hI.out]) (numsA_one _) ?_))
        refine bodyPost_ret (v := .tuple #[vA L, .bool true]) ?_ rfl ⟨by rw [hres.out], below_row belr (Nat.le_refl _) _⟩
        exact results_cell_tmp rfl _ _ rfl (ldI (a := L) (setRow_heap _ _ _ _ _ _ hyr.out) hI.out) rfl
  · have hb8' : ((n : Int) != 8) = true := by simp; omega
    have hno : parseI s.data.toList = none := by unfold parseI; rw [if_neg (fun h => h8 (by rw [← hcl]; exact h.1))]
    have hres := Lib.hid (IdR_no hno)
    clear hno
    go_enter Tryz.func50, Tryz.ntmps50
    go_wp2_with (first
      | (go_at_call 100; refine (hcut _).mono ?_; clear hcut; rintro e w1 ⟨⟨v, rfl, hrow, low⟩, bel1⟩; obtain ⟨A, c2, rfl, hc1, hc2⟩ := own_slice hrow; have bel01 := bel0.trans (bel1.mono bel0.size); have hy0 := Lib.hid (Below.box hz0.out bel1 (lt_of_obj hz0.out)); have hy1 := Lib.hid (box1 w1 (oI zeroI)); have hy2 := Lib.hid (Below.box hy0.out ((Below.refl w1.heap.size w1).alloc (Nat.le_refl _) (oI zeroI)) (lt_of_obj hy0.out)); have bel2 := bel01.alloc bel01.size (oI zeroI); clear hrow low)
      | (refine wpList_store_new rfl 68 (.tmp 5) (.tmp 9) rfl rfl rfl (info68 zeroI_ok) (by rw [sizeI zeroI_ok]; rfl) (numsA_one _) ?_)
      | (refine wpList_load_mid rfl 68 (.tmp 5) rfl w1.heap.size 0 rfl (nums .u8 zeroI) _ (row_load hy1.out) Tryz.underlying68 rfl (info68 zeroI_ok) ?_)
      | (refine wpList_store_row rfl 68 (.tmp 2) (.tmp 13) rfl w.heap.size (nums .u8 zeroI).toArray rfl rfl 68 (nums .u8 zeroI).toArray hy2.out (info68 zeroI_ok) rfl (numsA_one _) ?_))
    refine bodyPost_ret (v := .tuple #[vA zeroI, .bool false]) ?_ rfl ⟨by rw [hres.out], below_row bel2 (Nat.le_refl _) _⟩
    exact results_cell_tmp rfl _ _ rfl (ldI (a := zeroI) (setRow_heap _ _ _ _ _ _ hy2.out) zeroI_ok) rfl
end Go.Proofs.YtnljjlaececnkaaGreatDoor
/-
  The opening of arguments that are lists of texts, or ids; how long a joined line may be. No condition.
-/
namespace Go.Proofs.YtnljjlaececnkaaGreatDoor
open Go.ChangeShapes Go.WideShapes Go.ChangeAt Go.RowKit
set_option linter.unusedVariables false
set_option linter.unusedSimpArgs false
/-- A list of texts that came in. -/
def SIn (W : World) (v : Value) (xs : List ByteArray) : Prop := SRow W v xs ∧ xs.length ≤ 9223372036854775807 ∧ ∀ x ∈ xs, x.size ≤ 140737488351232
section
variable {H : Type} {enc : TypeId × Value → H} {W : World} {base : Nat}
theorem Reads.str {P : Program} {t : TypeId} {cs : List Value} (h : Reads enc P W t cs) (hu : P.underlying t = some .string) : ∃ s : ByteArray, cs = [.string s] ∧ s.size ≤ 140737488351232 := by
  obtain ⟨fuel, d, ps, h, hw⟩ := h
  obtain ⟨s, rfl, hx, -⟩ := DataW.trod_string hu h
  obtain ⟨rfl, rfl⟩ := Prod.mk.inj hx
  refine ⟨s, rfl, ?_⟩
  have := hw s.data.toList.length (by simp [DataW.weights])
  rw [len_data] at this
  exact this
set_option maxRecDepth 100000 in
theorem open_SS {v : Value} {d : DataW H} {ps : List MemPlace} (hval : Value.okWide Tryz.prog W .any base 23 v) (h : DataW.Trod enc Tryz.prog W 0 (fun _ => true) true 23 v d ps) {ts : List TypeId} {ds : List (DataW H)} (hsz : (DataW.weightsEach Tryz.prog ts ds).all (· ≤ reachBytes) = true) {j : Nat} (ht : ts[j]? = some 23) (hd : ds[j]? = some d) : ∃ xs : List ByteArray, SIn W v xs := by
  obtain ⟨a, len, cap, rfl⟩ := okWide_slice Tryz.underlying23 hval
  have hr := Reads.of_arg h (by simp [Value.cells]) hsz ht hd
  obtain ⟨v', els, hv, hcl, hrow, -, hel⟩ := hr.slice Tryz.underlying23 c9' (by decide) (B := 16) (by kernel_rfl)
  cases hv
  obtain ⟨xs, rfl⟩ := exists_map (fun s : ByteArray => [Value.string s]) els (fun c hc => by
    obtain ⟨s, hs, -⟩ := Reads.str (hel c hc) Tryz.underlying9
    exact ⟨s, hs⟩)
  have hfl : (xs.map fun s => [Value.string s]).flatten = strs xs := by
    unfold strs
    clear hel hrow hcl
    induction xs with
    | nil => rfl
    | cons x xs ih => rw [List.map_cons, List.flatten_cons, ih]; rfl
  rw [hfl] at hrow
  refine ⟨xs, SRow.of_row hrow, ?_, fun x hx => ?_⟩
  · obtain ⟨A, c, hv, h1, h2⟩ := hrow.head
    rw [List.length_map] at h1; omega
  · obtain ⟨s, hs, hb⟩ := Reads.str (hel [.string x] (List.mem_map.2 ⟨x, hx, rfl⟩)) Tryz.underlying9
    cases hs; exact hb
theorem ct68 : Tryz.prog.cellTypes Tryz.prog.depth 68 = some (List.replicate 8 5) := by kernel_rfl
set_option maxRecDepth 100000 in
/-- An id that came in. -/
theorem open_ID {w : World} {r : Reach} {v : Value} (h : Value.okWide Tryz.prog w r base 68 v) : ∃ a, v = vA a ∧ isI a := by
  unfold Value.okWide at h
  rw [Tryz.underlying68] at h
  obtain ⟨cs, rfl, hsz, hr⟩ := h
  rw [c68] at hsz
  obtain ⟨xs, hl, hx⟩ := open_cells (ks := List.replicate 8 .u8) ct68 (by simp [Tryz.underlying5]) (by simp [hsz]) hr
  have hg : ∀ i, i < 8 → ∃ x, xs[i]? = some x ∧ cs[i]? = some (.int .u8 x) ∧ IntKind.u8.has x := fun i hi => hx i .u8 (rep_get _ hi)
  have hl' : xs.length = 8 := by simpa using hl
  refine ⟨xs, ?_, hl', fun x hm => ?_⟩
  · unfold vA
    congr 1
    refine arr_eq (by rw [nums_length]; omega) fun i hi => ?_
    rw [nums_length] at hi
    obtain ⟨x, h1, h2, -⟩ := hg i (by omega)
    rw [h2, nums_get h1]
  · obtain ⟨i, hi, rfl⟩ := List.mem_iff_getElem.1 hm
    obtain ⟨x, h1, -, h3⟩ := hg i (by omega)
    rw [List.getElem?_eq_getElem hi] at h1
    rw [Option.some.inj h1]; exact has_u8 h3
end
theorem wordL_len (x : ByteArray) : (wordL x.data.toList).length ≤ 3 * x.size + 2 := by
  have := esc_le x.data.toList
  rw [len_data] at this
  unfold wordL
  split
  · rw [len_data]; omega
  · simp; omega
theorem joinA_bound {xs : List ByteArray} : ∀ i, i ≤ xs.length → (joinA xs i).length ≤ 3 * sumB (xs.take i) + 3 * i
  | 0, _ => by simp [joinA, Lib.join]
  | i + 1, h => by
    obtain ⟨x, hx⟩ := get_some (l := xs) (j := i) (by omega)
    have ih := joinA_bound (xs := xs) i (by omega)
    have hw := wordL_len x
    rw [joinA_next hx, take_snoc hx, sumB_snoc, List.length_append]
    split
    · simp; omega
    · rw [List.length_append]; simp; omega
theorem joinB_small {xs : List ByteArray} (h : PrOk xs) : (joinB xs).size ≤ 300000 := by
  have := joinA_bound (xs := xs) xs.length (Nat.le_refl _)
  rw [joinA_all, len_data, List.take_length] at this
  have h1 := h.1
  have h2 := h.2.1
  omega
theorem PrOk.small {xs : List ByteArray} (h : PrOk xs) : ∀ x ∈ xs, x.size < 4294967281 := fun x hx => by
  have := sumB_mem hx; have := h.2.1; omega
theorem IdR_is (s : ByteArray) : ∃ L c, IdR s = .tuple #[.agg (nums .u8 L).toArray, .bool c] ∧ isI L := by
  cases h : parseI s.data.toList with
  | none => exact ⟨zeroI, false, IdR_no h, zeroI_ok⟩
  | some a => exact ⟨a, true, IdR_yes h, (parseI_some h).1⟩
theorem IdR_back {a : List Int} (ha : isI a) : IdR ⟨(idS a).toArray⟩ = .tuple #[.agg (nums .u8 a).toArray, .bool true] := IdR_yes (parse_id ha)
theorem WSpec_join {xs : List ByteArray} (h : PrOk xs) (hs : (joinB xs).size ≤ 1024) : WSpec (joinB xs) (xs, 0) := by
  unfold WSpec
  rw [if_neg (by omega)]
  exact WR_join xs h.2.2
theorem WSpec_long {s : ByteArray} (hs : 1024 < s.size) : WSpec s ([], 1) := by unfold WSpec; rw [if_pos hs]
end Go.Proofs.YtnljjlaececnkaaGreatDoor
