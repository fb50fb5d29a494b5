/-
  Merged texts (GF, KWordsLines), part 1 of 1. Conditions: each part's own, told at its head.
-/
import Derived.Test.YtnljjlaececnkaaGreatDoorBWd1
import Derived.Test.YtnljjlaececnkaaGreatDoorBWd2
import Derived.Test.YtnljjlaececnkaaGreatDoorBWd3
import Derived.Test.YtnljjlaececnkaaGreatDoorBWd4
import Derived.Test.YtnljjlaececnkaaGreatDoorBWd5
import Derived.Test.YtnljjlaececnkaaGreatDoorBWd6
import Derived.Test.YtnljjlaececnkaaGreatDoorBWd7
import Derived.Test.YtnljjlaececnkaaGreatDoorBWd8
/-
  Lists of lines: kept, changed, put together. No condition.
-/
namespace Go.Proofs.YtnljjlaececnkaaGreatDoor
open Go.RowKit
set_option linter.unusedVariables false
set_option linter.unusedSimpArgs false
theorem wpList_of_wpG {P : Program} {w : World} {ops : Array Oper} {rest : List Oper} {o : Oper} {a : Act} {Q : Exit → Act → World → Prop} (hw : Region.wanted o (yielded ops a.tmps) = true)
    (h : ∀ K : Act → World → Prop, (∀ a w, wpList P ops Q rest a w → K a w) → Oper.wp P o a w K Q) : wpList P ops Q (o :: rest) a w := by
  unfold wpList
  rw [if_pos hw]
  exact .inl (h _ fun _ _ h => h)
theorem LinesAt.fr {S : Nat → Prop} {W W' : World} {x : Value} {l : List (Nat × List ByteArray)} {vs : List Value} (h : LinesAt W x l vs) (hf : Fr S W W') (hx : ∀ b, x.ownBlock = some b → ¬ S b) (hvs : ∀ v ∈ vs, ∀ b, v.ownBlock = some b → ¬ S b) : LinesAt W' x l vs :=
  ⟨h.len, own_fr h.row hf hx, fun j p v hp hv => ⟨own_fr (h.each j p v hp hv).1 hf (hvs v (List.mem_of_getElem? hv)), (h.each j p v hp hv).2⟩⟩
theorem LinesAt.mem {W : World} {x : Value} {l : List (Nat × List ByteArray)} {vs : List Value} (h : LinesAt W x l vs) {v : Value} (hv : v ∈ vs) : (∃ e sz n xs, W.ownsRow 0 e sz v n xs) ∧ ∀ b, v.ownBlock = some b → x.ownBlock ≠ some b := by
  obtain ⟨j, hj, rfl⟩ := List.getElem_of_mem hv
  have := h.each j _ _ (List.getElem?_eq_getElem (by rw [← h.len]; exact hj)) (List.getElem?_eq_getElem hj)
  exact ⟨⟨_, _, _, _, this.1⟩, this.2⟩
theorem LinesAt.lt {W : World} {x : Value} {l : List (Nat × List ByteArray)} {vs : List Value} (h : LinesAt W x l vs) : (∀ b, x.ownBlock = some b → b < W.heap.size) ∧ ∀ v ∈ vs, ∀ b, v.ownBlock = some b → b < W.heap.size :=
  ⟨own_lt h.row, fun v hv b hb => by obtain ⟨⟨e, sz, n, xs, ho⟩, -⟩ := h.mem hv; exact own_lt ho b hb⟩
theorem lcells_len : ∀ {l : List (Nat × List ByteArray)} {vs : List Value}, vs.length = l.length → (lcells l vs).length = l.length * 2
  | [], [], _ => rfl
  | q :: l, u :: vs, h => by
    have e1 : lcells (q :: l) (u :: vs) = .int .i64 (q.1 : Int) :: u :: lcells l vs := rfl
    rw [e1, List.length_cons, List.length_cons, lcells_len (by simpa using h), List.length_cons]; omega
  | [], _ :: _, h => by simp at h
  | _ :: _, [], h => by simp at h
theorem lcells_app {l m : List (Nat × List ByteArray)} {vs us : List Value} (h : vs.length = l.length) : lcells l vs ++ lcells m us = lcells (l ++ m) (vs ++ us) := by
  unfold lcells
  rw [List.zip_append h.symm, List.map_append, List.flatten_append]
theorem lcells_one : ∀ {l : List (Nat × List ByteArray)} {vs : List Value}, (∀ v ∈ vs, v.oneCell' = true) → ∀ u ∈ lcells l vs, u.oneCell' = true
  | [], _, _, u, hu => by simp [lcells] at hu
  | _ :: _, [], _, u, hu => by simp [lcells] at hu
  | q :: l, v :: vs, h, u, hu => by
    have e1 : lcells (q :: l) (v :: vs) = .int .i64 (q.1 : Int) :: v :: lcells l vs := rfl
    rw [e1] at hu
    rcases List.mem_cons.1 hu with rfl | hu
    · rfl
    · rcases List.mem_cons.1 hu with rfl | hu
      · exact h _ (List.mem_cons_self ..)
      · exact lcells_one (fun v hv => h v (List.mem_cons_of_mem _ hv)) u hu
theorem lcells_set : ∀ {l : List (Nat × List ByteArray)} {vs : List Value} {j k : Nat} {p : Nat × List ByteArray}, vs.length = l.length → l[j]? = some p → (lcells l vs).set (j * 2) (.int .i64 (k : Int)) = lcells (l.set j (k, p.2)) vs
  | [], _, _, _, _, _, h => by simp at h
  | _ :: _, [], _, _, _, h, _ => by simp at h
  | q :: l, u :: vs, 0, k, p, _, h => rfl
  | q :: l, u :: vs, j + 1, k, p, hl, h => by
    have ih := lcells_set (l := l) (vs := vs) (j := j) (k := k) (p := p) (by simpa using hl) h
    have e1 : lcells (q :: l) (u :: vs) = .int .i64 (q.1 : Int) :: u :: lcells l vs := rfl
    rw [e1, Nat.succ_mul, List.set_cons_succ]
    show _ :: (u :: lcells l vs).set (j * 2 + 1) _ = _
    rw [List.set_cons_succ, ih]; rfl
theorem LinesAt.one {W : World} {x : Value} {l : List (Nat × List ByteArray)} {vs : List Value} (h : LinesAt W x l vs) : ∀ u ∈ lcells l vs, u.oneCell' = true :=
  lcells_one fun v hv => by
    obtain ⟨j, hj, rfl⟩ := List.getElem_of_mem hv
    have := (h.each j _ _ (List.getElem?_eq_getElem (by rw [← h.len]; exact hj)) (List.getElem?_eq_getElem hj)).1
    obtain ⟨A, c, hv, -, -⟩ := own_slice this
    rw [hv]; rfl
/-- A line's number is set. -/
theorem LinesAt.put {W : World} {k m c : Nat} {l : List (Nat × List ByteArray)} {vs : List Value} (h : LinesAt W (.slice (some ⟨k, 0, none⟩) m c) l vs) {j n : Nat} {p : Nat × List ByteArray} (hp : l[j]? = some p) :
    LinesAt (W.setCell ⟨k, j * 2, none⟩ (.int .i64 (n : Int))) (.slice (some ⟨k, 0, none⟩) m c) (l.set j (n, p.2)) vs := by
  have hj := (List.getElem?_eq_some_iff.1 hp).1
  obtain ⟨k', hk, hm, -, -, -, hset⟩ := own_at h.row (by omega)
  cases hk
  subst hm
  have hr := hset (j * 2) (.int .i64 (n : Int)) (by omega)
  rw [lcells_set h.len hp] at hr
  have hf : Fr (fun b => b = k) W (W.setCell ⟨k, j * 2, none⟩ (.int .i64 (n : Int))) := Fr.setCell (S := fun b => b = k) (Fr.refl _ W) (p := ⟨k, j * 2, none⟩) (.inl rfl) _
  refine ⟨by rw [List.length_set]; exact h.len, by rw [List.length_set]; exact hr, fun i q v hq hv => ?_⟩
  have hq2 : ∃ q', l[i]? = some q' ∧ q'.2 = q.2 := by
    rw [List.getElem?_set] at hq
    split at hq
    · rename_i e
      subst e
      cases hq; exact ⟨p, hp, rfl⟩
    · exact ⟨q, hq, rfl⟩
  obtain ⟨q', h1, h2⟩ := hq2
  have he := h.each i q' v h1 hv
  rw [h2] at he
  exact ⟨own_fr he.1 hf fun b hb e => he.2 b hb (by rw [e]; rfl), he.2⟩
/-- Two lists, put together. -/
theorem LinesAt.both {W W' : World} {x y z : Value} {l m : List (Nat × List ByteArray)} {vs us : List Value} (hx : LinesAt W x l vs) (hy : LinesAt W y m us) (hz : W'.ownsRow 0 40 2 z (l.length + m.length) (lcells l vs ++ lcells m us)) (hlo : Lo W.heap.size z) (hb : Below W.heap.size W W') : LinesAt W' z (l ++ m) (vs ++ us) := by
  have key : ∀ (v : Value) (q : List ByteArray), W.ownsRow 0 9 1 v q.length (strs q) → W'.ownsRow 0 9 1 v q.length (strs q) ∧ ∀ b, v.ownBlock = some b → z.ownBlock ≠ some b := fun v q hv => ⟨own_below hv hb (own_lt hv), fun b hb hz => by have := own_lt hv b hb; have := hlo b hz; omega⟩
  refine ⟨by simp [hx.len, hy.len], by rw [← lcells_app hx.len, List.length_append]; exact hz, fun j q v hq hv => ?_⟩
  by_cases hj : j < l.length
  · rw [List.getElem?_append_left hj] at hq
    rw [List.getElem?_append_left (by rw [hx.len]; exact hj)] at hv
    exact key v q.2 (hx.each j q v hq hv).1
  · rw [List.getElem?_append_right (by omega)] at hq
    rw [List.getElem?_append_right (by rw [hx.len]; omega), hx.len] at hv
    exact key v q.2 (hy.each _ q v hq hv).1
theorem shift_snoc {n j : Nat} {l : List (Nat × List ByteArray)} {p : Nat × List ByteArray} (hp : l[j]? = some p) : (shiftL n (l.take j) ++ l.drop j).set j (p.1 + n, p.2) = shiftL n (l.take (j + 1)) ++ l.drop (j + 1) := by
  have hj := (List.getElem?_eq_some_iff.1 hp).1
  have hl : (shiftL n (l.take j)).length = j := by unfold shiftL; rw [List.length_map, List.length_take]; omega
  rw [take_snoc hp, List.drop_eq_getElem_cons hj]
  rw [List.set_append_right _ _ (by omega), hl, Nat.sub_self, List.set_cons_zero]
  unfold shiftL
  rw [List.map_append, List.append_assoc]; rfl
theorem shift_at {n j : Nat} {l : List (Nat × List ByteArray)} {p : Nat × List ByteArray} (hp : l[j]? = some p) : (shiftL n (l.take j) ++ l.drop j)[j]? = some p := by
  have hj := (List.getElem?_eq_some_iff.1 hp).1
  have hl : (shiftL n (l.take j)).length = j := by unfold shiftL; rw [List.length_map, List.length_take]; omega
  rw [List.getElem?_append_right (by omega), hl, Nat.sub_self, List.getElem?_drop]
  exact hp
theorem shift_len {n j : Nat} {l : List (Nat × List ByteArray)} : (shiftL n (l.take j) ++ l.drop j).length = l.length := by
  unfold shiftL
  rw [List.length_append, List.length_map, ← List.length_append, List.take_append_drop]
end Go.Proofs.YtnljjlaececnkaaGreatDoor
/-
  WordsLines, walked. Conditions: the held start; a text is no longer than memory has room for.
-/
namespace Go.Proofs.YtnljjlaececnkaaGreatDoor
open Go.RowKit
set_option linter.unusedVariables false
set_option linter.unusedSimpArgs false
theorem linesA_num (f : ByteArray → List ByteArray × Int) : ∀ (a : List ByteArray) k acc, (∀ p ∈ acc, p.1 ≤ k) → (linesA f a k acc).2.2 ≤ k + a.length ∧ ∀ p ∈ (linesA f a k acc).1, p.1 ≤ k + a.length
  | [], k, acc, h => ⟨Nat.zero_le _, h⟩
  | x :: a, k, acc, h => by
    unfold linesA
    by_cases h2 : (f x).2 = 0
    · rw [if_pos h2]
      have ih := linesA_num f a (k + 1) (if (f x).1 = [] then acc else acc ++ [(k + 1, (f x).1)]) (by
        split
        · exact fun p hp => Nat.le_succ_of_le (h p hp)
        · intro p hp
          rcases List.mem_append.1 hp with hp | hp
          · exact Nat.le_succ_of_le (h p hp)
          · simp at hp; subst hp; exact Nat.le_refl _)
      rw [List.length_cons]
      exact ⟨by omega, fun p hp => by have := ih.2 p hp; omega⟩
    · rw [if_neg h2, List.length_cons]
      exact ⟨by show k + 1 ≤ _; omega, fun p hp => by cases hp⟩
theorem linesB_words {f : ByteArray → List ByteArray × Int} (hf : ∀ s, WSpec s (f s)) : ∀ (a : List ByteArray) k acc, (∀ p ∈ acc, p.2.length ≤ 1024) → ∀ p ∈ (linesA f a k acc).1, p.2.length ≤ 1024
  | [], k, acc, h => h
  | x :: a, k, acc, h => by
    unfold linesA
    by_cases h2 : (f x).2 = 0
    · rw [if_pos h2]
      refine linesB_words hf a _ _ ?_
      split
      · exact h
      · intro p hp
        rcases List.mem_append.1 hp with hp | hp
        · exact h p hp
        · simp at hp; subst hp; exact WSpec_len (hf x)
    · rw [if_neg h2]; intro p hp; cases hp
/-- A text's lines, of a text that is short. -/
theorem linesT_short {f : ByteArray → List ByteArray × Int} (hf : ∀ s, WSpec s (f s)) {s : ByteArray} (hs : s.size ≤ 20001) {L : List (Nat × List ByteArray)} {e : Int} {a : Nat} (h : linesT f s = (L, e, a)) :
    L.length ≤ 20002 ∧ a ≤ 20002 ∧ (∀ p ∈ L, p.1 ≤ 20002 ∧ p.2.length ≤ 1024) ∧ (e = 0 → a = 0) ∧ (e ≠ 0 → L = []) := by
  unfold linesT at h
  rw [if_neg (by omega)] at h
  have hn : (pieces s ⟨#[10]⟩).length ≤ 20002 := by
    rw [pieces_eq]; unfold cutB
    have := cutL_many 10 s.data.toList
    rw [len_data] at this
    simp; omega
  have h1 := linesA_len f (pieces s ⟨#[10]⟩) 0 []
  have h2 := linesA_num f (pieces s ⟨#[10]⟩) 0 [] (fun p hp => by cases hp)
  have h3 := linesB_words hf (pieces s ⟨#[10]⟩) 0 [] (fun p hp => by cases hp)
  have h4 := linesA_ok f (pieces s ⟨#[10]⟩) 0 []
  have h5 := linesA_bad f (pieces s ⟨#[10]⟩) 0 []
  rw [h] at h1 h2 h3 h4 h5
  refine ⟨?_, ?_, fun p hp => ⟨?_, h3 p hp⟩, h4, h5⟩
  · simp at h1; omega
  · have := h2.1; simp at this; omega
  · have := h2.2 p hp; simp at this; omega
theorem lines_two {f : ByteArray → List ByteArray × Int} {s t u : ByteArray} (hu : s ++ ⟨#[10]⟩ ++ t = u) (hsz : s.size + t.size ≤ 20000) : linesT f u = if (linesT f s).2.1 = 0 then (if (linesT f t).2.1 = 0 then ((linesT f s).1 ++ shiftL (s.data.toList.count 10 + 1) (linesT f t).1, 0, 0) else ([], (linesT f t).2.1, (linesT f t).2.2 + (s.data.toList.count 10 + 1))) else linesT f s := by
  have h1 : (⟨#[10]⟩ : ByteArray).size = 1 := rfl
  have hus : u.size = s.size + 1 + t.size := by rw [← hu, cat_size, cat_size, h1]
  have hl : u.data.toList = s.data.toList ++ 10 :: t.data.toList := by rw [← hu, cat_list, cat_list]; simp
  unfold linesT
  rw [if_neg (show ¬ 65536 < u.size by omega), if_neg (show ¬ 65536 < s.size by omega), if_neg (show ¬ 65536 < t.size by omega)]
  simp only [pieces_eq]
  have hc : cutB 10 u = cutB 10 s ++ cutB 10 t := by unfold cutB; rw [hl, cutL_two, List.map_append]
  have hn : (cutB 10 s).length = s.data.toList.count 10 + 1 := by unfold cutB; rw [List.length_map, cutL_count]
  rw [hc, ← hn]
  exact linesA_two f _ _
set_option maxRecDepth 100000 in
set_option maxHeartbeats 6400000 in
theorem WordsLines_walk (s t : ByteArray) (hs : s.size ≤ 140737488351232) (ht : t.size ≤ 140737488351232) {w : World} (E : Env w) : Calls Tryz.prog 5 #[.string s, .string t] w fun e w' => e = .returned (.bool true) ∧ Below w.heap.size w w' := by
  have hlive := fun (W : World) (h : Below w.heap.size w W) => (live08_any (E.go h).2).mono fun e w' h2 => (⟨h2.1, h.trans (h2.2.mono h.size)⟩ : e = .returned (.bool true) ∧ Below w.heap.size w w')
  have hlive0 := live08_any E
  have hw0 : IntKind.i64.wrap ((s.size : Int) + (t.size : Int)) = ((s.size + t.size : Nat) : Int) := (IntWalk.i64_in _ (by omega)).trans (by omega)
  by_cases hh : 20000 < s.size + t.size
  · have hd : decide ((20000 : Int) < ((s.size + t.size : Nat) : Int)) = true := decide_eq_true (by omega)
    have hd2 : decide ((20000 : Int) < (s.size : Int) + (t.size : Int)) = true := decide_eq_true (by omega)
    go_enter Tryz.func5, Tryz.ntmps5
    go_wp2_with (go_at_call 20; refine hlive0.mono ?_; rintro e w' ⟨rfl, bel⟩)
    go_ret
    exact ⟨rfl, bel⟩
  · have hd : decide ((20000 : Int) < ((s.size + t.size : Nat) : Int)) = false := decide_eq_false (by omega)
    have hd2 : decide ((20000 : Int) < (s.size : Int) + (t.size : Int)) = false := decide_eq_false (by omega)
    obtain ⟨f, hf⟩ := words_fun
    obtain ⟨u, hu⟩ : ∃ u, s ++ ⟨#[10]⟩ ++ t = u := ⟨_, rfl⟩
    have hus : u.size = s.size + 1 + t.size := by
      have h1 : (⟨#[10]⟩ : ByteArray).size = 1 := rfl
      rw [← hu, cat_size, cat_size, h1]
    have h3 := lines_two (f := f) hu (by omega)
    obtain ⟨⟨La, e1, a1⟩, hR1⟩ : ∃ R, linesT f s = R := ⟨_, rfl⟩
    obtain ⟨⟨Lb, e2, a2⟩, hR2⟩ : ∃ R, linesT f t = R := ⟨_, rfl⟩
    obtain ⟨⟨Lc, e3, a3⟩, hR3⟩ : ∃ R, linesT f u = R := ⟨_, rfl⟩
    have b1 := linesT_short hf (by omega) hR1
    have b2 := linesT_short hf (by omega) hR2
    have b3 := linesT_short hf (by omega) hR3
    rw [hR1, hR2, hR3] at h3
    simp only at h3
    have d1 := fun W (h : Below w.heap.size w W) => lines_any (w := W) (E.go h).2 hf hR1
    have d2 := fun W (h : Below w.heap.size w W) => lines_any (w := W) (E.go h).2 hf hR2
    have d3 := fun W (h : Below w.heap.size w W) => lines_any (w := W) (E.go h).2 hf hR3
    replace d1 := Lib.hid d1
    replace d2 := Lib.hid d2
    replace d3 := Lib.hid d3
    replace b1 := Lib.hid b1
    replace b2 := Lib.hid b2
    replace b3 := Lib.hid b3
    replace h3 := Lib.hid h3
    replace hlive := Lib.hid hlive
    clear hR1 hR2 hR3 hf
    have hL1 : ¬ 9223372036854775807 < s.size + 1 := by omega
    have hL2 : ¬ 9223372036854775807 < s.size + 1 + t.size := by omega
    have hLs := fun (a b : ByteArray) => cat_size a b
    go_enter Tryz.func5, Tryz.ntmps5
    go_wp2_with (first
      | (go_at_call 25; with_reducible refine (d1.out _ (Below.refl _ _)).mono ?_; clear d1; rintro e w1 ⟨v1, vs1, rfl, ho1, -, -, bel1⟩; obtain ⟨A1, c1, hv, -, -⟩ := own_slice ho1.row; subst hv; have ho1 := Lib.hid ho1)
      | (go_at_call 25; with_reducible refine (d2.out _ bel1).mono ?_; clear d2; rintro e w2 ⟨v2, vs2, rfl, ho2, lo2, los2, bel2⟩; obtain ⟨A2, c2, hv, -, -⟩ := own_slice ho2.row; subst hv; have bel12 := bel1.trans (bel2.mono bel1.size); have hp1 := Lib.hid (ho1.out.below bel2); have ho2 := Lib.hid ho2)
      | (go_at_call 25; with_reducible refine (d3.out _ bel12).mono ?_; clear d3; rintro e w3 ⟨v3, vs3, rfl, ho3, lo3, los3, bel3⟩; obtain ⟨A3, c3, hv, -, -⟩ := own_slice ho3.row; subst hv; have bel13 := bel12.trans (bel3.mono bel12.size); have hq1 := Lib.hid (hp1.out.below bel3); have hq2 := Lib.hid (ho2.out.below bel3); have ho3 := Lib.hid ho3))
    replace los2 := Lib.hid los2
    replace los3 := Lib.hid los3
    go_loop [14, 15] (fun x14 x15 => ∃ (i : Nat) (m : Nat), i ≤ s.size ∧ x15 = .int .i64 i ∧ x14 = .int .i64 m ∧ m ≤ i + 1 ∧ Hid ((s.data.toList.take i).count 10 + 1 = m)) (fun x14 x15 => s.size - (intOf x15).toNat)
    case atStart => exact ⟨0, 1, Nat.zero_le _, rfl, rfl, Nat.le_refl _, Lib.hid rfl⟩
    case round =>
      obtain ⟨i, m, hi, rfl, rfl, hmi, hm⟩ := hrel
      by_cases hlt : i < s.size
      · have hg := get_byte s i hlt
        have htk := Lib.hid (take_snoc hg)
        replace hg := Lib.hid hg
        have hw2 : IntKind.i64.wrap ((i : Int) + 1) = ((i + 1 : Nat) : Int) := (IntWalk.i64_in _ (by omega)).trans (by omega)
        have hw3 : IntKind.i64.wrap ((m : Int) + 1) = ((m + 1 : Nat) : Int) := (IntWalk.i64_in _ (by omega)).trans (by omega)
        by_cases h10 : s[i].toNat = 10
        · have hc : s[i] = 10 := UInt8.toNat_inj.1 h10
          go_wp2
          refine ⟨⟨i + 1, m + 1, by omega, by congr 1, by congr 1, by omega, Lib.hid (by rw [htk.out, List.count_append, hc, ← hm.out]; rfl)⟩, by simp [intOf]; omega⟩
        · have hc : s[i] ≠ 10 := fun e => h10 (by rw [e]; rfl)
          have b10 : ((s[i].toNat : Int) == 10) = false := by simp; omega
          go_wp2
          refine ⟨⟨i + 1, m, by omega, by congr 1, rfl, by omega, Lib.hid (by rw [htk.out, List.count_append, List.count_singleton, if_neg (by simpa using hc), ← hm.out])⟩, by simp [intOf]; omega⟩
      · obtain rfl : i = s.size := by omega
        have hm2 : s.data.toList.count 10 + 1 = m := by rw [← hm.out, List.take_of_length_le (by rw [len_data]; exact Nat.le_refl _)]
        have h3 := h3.out
        rw [hm2] at h3
        clear hm hm2
        by_cases he1 : e1 = 0
        · subst he1
          rw [if_pos rfl] at h3
          by_cases he2 : e2 = 0
          · subst he2
            rw [if_pos rfl] at h3
            obtain ⟨hLc, he3, ha3⟩ : Lc = La ++ shiftL m Lb ∧ e3 = 0 ∧ a3 = 0 := by cases h3; exact ⟨rfl, rfl, rfl⟩
            subst he3 ha3
            replace hLc := Lib.hid hLc
            clear h3
            have hlb2 := b2.out.1
            go_wp2_with (go_at_call 23; refine errnum_any.mono ?_; rintro e w7 ⟨rfl, hw7⟩; replace hw7 := hw7.symm; subst hw7)
            go_loopw [16] (fun x16 wr => ∃ j : Nat, j ≤ Lb.length ∧ x16 = .int .i64 j ∧ Hid (LinesAt wr (.slice A2 Lb.length c2) (shiftL m (Lb.take j) ++ Lb.drop j) vs2) ∧ Fr (fun b => (Value.slice A2 Lb.length c2).ownBlock = some b) w3 wr) (fun x16 wr => Lb.length - (intOf x16).toNat)
            case atStart => exact ⟨0, Nat.zero_le _, rfl, hq2, Fr.refl _ _⟩
            case round =>
              obtain ⟨j, hj, rfl, hA, fr⟩ := hrel
              by_cases hjl : j < Lb.length
              · obtain ⟨p, hp⟩ : ∃ p, Lb[j]? = some p := ⟨_, List.getElem?_eq_getElem hjl⟩
                have hpb := (b2.out.2.2.1 p (List.mem_of_getElem? hp)).1
                have hA0 := hA.out
                obtain ⟨v, hv⟩ : ∃ v, vs2[j]? = some v := ⟨_, List.getElem?_eq_getElem (by rw [hA0.len, shift_len]; exact hjl)⟩
                obtain ⟨k, hk, hkl, hc⟩ := hA0.cells (by rw [shift_len]; omega)
                subst hk
                obtain ⟨q1, q2⟩ := hc j p v (shift_at hp) hv
                obtain ⟨k', hk', -, -, -, hfz, -⟩ := own_at hA0.row (by rw [shift_len]; omega)
                cases hk'
                have qf := hfz (j * 2)
                have hput := Lib.hid (hA0.put (n := p.1 + m) (shift_at hp))
                have hfr := Lib.hid (Fr.setCell (S := fun b => (Value.slice (some ⟨k, 0, none⟩) Lb.length c2).ownBlock = some b) fr (p := ⟨k, j * 2, none⟩) (.inl rfl) (.int .i64 ((p.1 + m : Nat) : Int)))
                have hsn := Lib.hid (shift_snoc (n := m) hp)
                have hw5 : IntKind.i64.wrap ((p.1 : Int) + (m : Int)) = ((p.1 + m : Nat) : Int) := (IntWalk.i64_in _ (by omega)).trans (by omega)
                clear hA hA0 hc hfz q2 hv hp fr
                go_wp2
                refine ⟨⟨j + 1, by omega, by congr 1, Lib.hid (by rw [← hsn.out]; exact hput.out), hfr.out⟩, by simp [intOf]; omega⟩
              · obtain rfl : j = Lb.length := by omega
                have hB : LinesAt wr (.slice A2 Lb.length c2) (shiftL m Lb) vs2 := by
                  have := hA.out
                  rw [List.take_length, List.drop_length, List.append_nil] at this
                  exact this
                have hA1 : LinesAt wr (.slice A1 La.length c1) La vs1 := hq1.out.fr fr (fun b hb hb2 => by have := ho1.out.lt.1 b hb; have := lo2 b hb2; omega) (fun v hv b hb hb2 => by have := ho1.out.lt.2 v hv b hb; have := lo2 b hb2; omega)
                have hC : LinesAt wr (.slice A3 Lc.length c3) Lc vs3 := ho3.out.fr fr (fun b hb hb2 => by have := ho2.out.lt.1 b hb2; have := lo3 b hb; omega) (fun v hv b hb hb2 => by have := ho2.out.lt.1 b hb2; have := los3.out v hv b hb; omega)
                have belr : Below w.heap.size w wr := bel13.trans (fr.belowS (fun b hb => Nat.le_trans bel1.size (lo2 b hb)) bel13.size)
                have hlb : (shiftL m Lb).length = Lb.length := by simp [shiftL]
                have hBr : Hid (wr.ownsRow 0 40 2 (.slice A2 Lb.length c2) Lb.length (lcells (shiftL m Lb) vs2)) := Lib.hid (by have := hB.row; rw [hlb] at this; exact this)
                have hB1 := Lib.hid hB
                have hA2 := Lib.hid hA1
                have hC1 := Lib.hid hC
                have hla := b1.out.1
                have hlc := b3.out.1
                clear hA hB hA1 hC
                go_wp2_with (first
                  | (go_at_call 23; refine errnum_any.mono ?_; rintro e w8 ⟨rfl, rfl⟩)
                  | (at_builtin; go_loud (refine wpList_of_wpG (by rfl) fun K hK => wp_clone (.tmp 118) (.tmp 119) 32 rfl Tryz.underlying32 info40z rfl (by decide) (by decide) rfl rfl (own_old hA2.out.row) hA2.out.one (by omega) ?_; intro v5 w5 ho5 lo5 bel5; refine hK _ _ ?_; clear hK))
                  | (at_builtin; go_loud (refine wpList_of_wpG (by rfl) fun K hK => wp_appR (.tmp 120) (.tmp 121) 32 rfl Tryz.underlying32 info40z rfl (by decide) (by decide) rfl ho5 rfl (own_old (own_below hBr.out bel5 (own_lt hBr.out))) hB1.out.one (by omega) ?_; intro v6 w6 ho6 hn6 hf6; refine hK _ _ ?_; clear hK; have belw6 := bel5.trans (hf6.belowB lo5 bel5.size); have hF : Hid (LinesAt w6 v6 Lc (vs1 ++ vs2)) := Lib.hid (by rw [hLc.out]; exact hA2.out.both hB1.out (by rw [hlb]; exact ho6) (lo5.next hn6 bel5.size) belw6)))
                  | (go_at_call 27; with_reducible refine (same_yes (hC1.out.below belw6) hF.out (by omega) (fun p hp => Nat.le_trans (b3.out.2.2.1 p hp).2 (by decide))).mono ?_; rintro e w9 ⟨rfl, bel9⟩; have bel19 := belr.trans ((belw6.trans (bel9.mono belw6.size)).mono belr.size))
                  | (go_at_call 20; refine (hlive.out _ bel19).mono ?_; rintro e w10 ⟨rfl, bel⟩))
                go_ret
                exact ⟨rfl, bel⟩
          · rw [if_neg he2] at h3
            cases h3
            have hne : (e2 != 0) = true := by simpa using he2
            have hab := b2.out.2.1
            have hw5 : IntKind.i64.wrap ((a2 : Int) + (m : Int)) = ((a2 + m : Nat) : Int) := (IntWalk.i64_in _ (by omega)).trans (by omega)
            replace he2 := Lib.hid he2
            go_wp2_with (first | (go_at_call 23; refine errnum_any.mono ?_; rintro e w7 ⟨rfl, rfl⟩) | (go_at_call 20; refine (hlive.out _ bel13).mono ?_; rintro e w8 ⟨rfl, bel⟩))
            go_ret
            exact ⟨rfl, bel⟩
        · rw [if_neg he1] at h3
          cases h3
          have hne : (e1 != 0) = true := by simpa using he1
          have hnil := b1.out.2.2.2.2 he1
          subst hnil
          replace he1 := Lib.hid he1
          go_wp2_with (first | (go_at_call 23; refine errnum_any.mono ?_; rintro e w7 ⟨rfl, rfl⟩) | (go_at_call 20; refine (hlive.out _ bel13).mono ?_; rintro e w8 ⟨rfl, bel⟩))
          go_ret
          exact ⟨rfl, bel⟩
end Go.Proofs.YtnljjlaececnkaaGreatDoor
