/-
  Parts, in plain words: the program's merging and the document's rounds come to the same labels. No program in sight. No condition.
-/
import Derived.Test.YteopnaacmpcbnaaP
namespace Go.Proofs.Yteopnaacmpcbnaa
set_option linter.unusedVariables false

/-- A wire: its node, its interface, its segment. -/
abbrev Wire := Int × Int × Int
def okW (n : Nat) (x : Wire) : Prop := 0 ≤ x.1 ∧ x.1 < n
instance (n : Nat) (x : Wire) : Decidable (okW n x) := inferInstanceAs (Decidable (_ ∧ _))
def pf (p : List Int) (i : Int) : Int := p.getD i.toNat 0
def ids (n : Nat) : List Int := (List.range n).map fun (i : Nat) => (i : Int)
theorem ids_len (n : Nat) : (ids n).length = n := by simp [ids]
theorem pf_ids {n : Nat} {i : Int} (h0 : 0 ≤ i) (h1 : i < n) : pf (ids n) i = i := by
  unfold pf ids
  rw [List.getD_eq_getElem?_getD, List.getElem?_map, List.getElem?_range (by omega)]
  simp; omega
theorem pf_get {p : List Int} {i : Nat} {y : Int} (h : p[i]? = some y) : pf p i = y := by simp [pf, List.getD_eq_getElem?_getD, h]
theorem pf_ext {n : Nat} {p q : List Int} (hp : p.length = n) (hq : q.length = n) (h : ∀ i : Int, 0 ≤ i → i < n → pf p i = pf q i) : p = q := by
  apply List.ext_getElem (by omega)
  intro i h1 h2
  have := h i (by omega) (by omega)
  rw [pf_get (List.getElem?_eq_getElem h1), pf_get (List.getElem?_eq_getElem h2)] at this
  exact this
/-! ### the program's -/
def mkm (a b x : Int) : Int := if x = a ∨ x = b then min a b else x
def mrg (p : List Int) (a b : Int) : List Int := p.map (mkm a b)
theorem pf_mrg {p : List Int} {a b i : Int} (h0 : 0 ≤ i) (h1 : i < p.length) : pf (mrg p a b) i = mkm a b (pf p i) := by
  unfold pf mrg
  rw [List.getD_eq_getElem?_getD, List.getD_eq_getElem?_getD, List.getElem?_map, List.getElem?_eq_getElem (by omega)]; simp
def pstep (n : Nat) (st : List Int × (Int → Option Int)) (x : Wire) : List Int × (Int → Option Int) :=
  if okW n x then match st.2 x.2.2 with
    | none => (st.1, fun s => if s = x.2.2 then some x.1 else st.2 s)
    | some o => (mrg st.1 (pf st.1 o) (pf st.1 x.1), st.2)
  else st
def prs (n : Nat) (ws : List Wire) : List Int × (Int → Option Int) := ws.foldl (pstep n) (ids n, fun _ => none)
def Resp (n : Nat) (ws : List Wire) (q : Int → Int) : Prop := ∀ x ∈ ws, ∀ y ∈ ws, okW n x → okW n y → x.2.2 = y.2.2 → q x.1 = q y.1
structure PInv (n : Nat) (ws : List Wire) (st : List Int × (Int → Option Int)) : Prop where
  len : st.1.length = n
  rt : ∀ i : Int, 0 ≤ i → i < n → 0 ≤ pf st.1 i ∧ pf st.1 i ≤ i ∧ pf st.1 (pf st.1 i) = pf st.1 i
  seen : ∀ x ∈ ws, okW n x → ∃ o, st.2 x.2.2 = some o ∧ pf st.1 o = pf st.1 x.1
  mem : ∀ s o, st.2 s = some o → ∃ x ∈ ws, okW n x ∧ x.1 = o ∧ x.2.2 = s
  low : ∀ q : Int → Int, Resp n ws q → ∀ i : Int, 0 ≤ i → i < n → q (pf st.1 i) = q i
theorem PInv.start (n : Nat) : PInv n [] (ids n, fun _ => none) :=
  by
  refine ⟨ids_len n, fun i h0 h1 => ?_, fun x h => ?_, fun s o h => ?_, fun q _ i h0 h1 => ?_⟩
  · simp only [pf_ids h0 h1]; exact ⟨h0, Int.le_refl _, trivial⟩
  · cases h
  · cases h
  · simp only [pf_ids h0 h1]
theorem mkm_cases (a b x : Int) : ((x = a ∨ x = b) ∧ mkm a b x = min a b) ∨ ((x ≠ a ∧ x ≠ b) ∧ mkm a b x = x) := by
  unfold mkm; split
  · exact .inl ⟨by assumption, rfl⟩
  · exact .inr ⟨by omega, rfl⟩
theorem PInv.step {n : Nat} {ws : List Wire} {st : List Int × (Int → Option Int)} (h : PInv n ws st) (x : Wire) : PInv n (ws ++ [x]) (pstep n st x) := by
  have hresp : ∀ q, Resp n (ws ++ [x]) q → Resp n ws q := fun q hq y hy z hz => hq y (by simp [hy]) z (by simp [hz])
  unfold pstep
  by_cases hx : okW n x
  · rw [if_pos hx]
    cases hf : st.2 x.2.2 with
    | none =>
      refine ⟨h.len, h.rt, fun y hy hyo => ?_, fun s o hs => ?_, fun q hq => h.low q (hresp q hq)⟩
      · rcases List.mem_append.1 hy with hy | hy
        · obtain ⟨o, h1, h2⟩ := h.seen y hy hyo
          refine ⟨o, ?_, h2⟩
          have : y.2.2 ≠ x.2.2 := fun e => by rw [e, hf] at h1; cases h1
          simp only [if_neg this]; exact h1
        · obtain rfl := List.mem_singleton.1 hy
          exact ⟨y.1, by simp, rfl⟩
      · simp only at hs
        split at hs
        · cases hs; exact ⟨x, by simp, hx, rfl, by simp_all⟩
        · obtain ⟨y, h1, h2⟩ := h.mem s o hs
          exact ⟨y, by simp [h1], h2⟩
    | some o =>
      obtain ⟨z, hz, hzo, hzn, hzs⟩ := h.mem _ _ hf
      have ho : 0 ≤ o ∧ o < n := hzn ▸ hzo
      have ra := h.rt o ho.1 ho.2
      have rb := h.rt x.1 hx.1 hx.2
      have hP : ∀ i : Int, 0 ≤ i → i < n → pf (mrg st.1 (pf st.1 o) (pf st.1 x.1)) i = mkm (pf st.1 o) (pf st.1 x.1) (pf st.1 i) := fun i h0 h1 => pf_mrg h0 (by rw [h.len]; exact h1)
      refine ⟨by simp [mrg, h.len], fun i h0 h1 => ?_, fun y hy hyo => ?_, fun s o' hs => ?_, fun q hq i h0 h1 => ?_⟩
      · have ri := h.rt i h0 h1
        simp only
        rw [hP i h0 h1]
        rcases mkm_cases (pf st.1 o) (pf st.1 x.1) (pf st.1 i) with ⟨hc, he⟩ | ⟨hc, he⟩
        · rw [he]
          refine ⟨by omega, by omega, ?_⟩
          rw [hP _ (by omega) (by omega)]
          have e2 : pf st.1 (min (pf st.1 o) (pf st.1 x.1)) = min (pf st.1 o) (pf st.1 x.1) := by
            rcases Int.le_total (pf st.1 o) (pf st.1 x.1) with hle | hle
            · rw [Int.min_eq_left hle]; exact ra.2.2
            · rw [Int.min_eq_right hle]; exact rb.2.2
          rw [e2]
          rcases mkm_cases (pf st.1 o) (pf st.1 x.1) (min (pf st.1 o) (pf st.1 x.1)) with ⟨_, he⟩ | ⟨_, he⟩ <;> exact he
        · rw [he]
          refine ⟨ri.1, ri.2.1, ?_⟩
          rw [hP _ ri.1 (by omega), ri.2.2, he]
      · simp only
        rcases List.mem_append.1 hy with hy | hy
        · obtain ⟨o', h1, h2⟩ := h.seen y hy hyo
          obtain ⟨z', _, hz', hzn', _⟩ := h.mem _ _ h1
          refine ⟨o', h1, ?_⟩
          rw [hP _ (hzn' ▸ hz'.1) (hzn' ▸ hz'.2), hP _ hyo.1 hyo.2, h2]
        · obtain rfl := List.mem_singleton.1 hy
          refine ⟨o, hf, ?_⟩
          rw [hP _ ho.1 ho.2, hP _ hx.1 hx.2]
          unfold mkm
          rw [if_pos (.inl rfl), if_pos (.inr rfl)]
      · obtain ⟨y, h1, h2⟩ := h.mem s o' hs
        exact ⟨y, by simp [h1], h2⟩
      · simp only
        have hl := h.low q (hresp q hq)
        have e1 : q (pf st.1 o) = q (pf st.1 x.1) := by
          rw [hl o ho.1 ho.2, hl x.1 hx.1 hx.2, ← hzn]
          exact hq z (by simp [hz]) x (by simp) hzo hx hzs
        rw [hP i h0 h1]
        rcases mkm_cases (pf st.1 o) (pf st.1 x.1) (pf st.1 i) with ⟨hc, he⟩ | ⟨hc, he⟩
        · rw [he]
          have e2 : q (min (pf st.1 o) (pf st.1 x.1)) = q (pf st.1 o) := by
            rcases Int.le_total (pf st.1 o) (pf st.1 x.1) with hle | hle
            · rw [Int.min_eq_left hle]
            · rw [Int.min_eq_right hle]; exact e1.symm
          rw [e2, ← hl i h0 h1]
          rcases hc with hc | hc
          · rw [hc]
          · rw [hc]; exact e1
        · rw [he]; exact hl i h0 h1
  · rw [if_neg hx]
    refine ⟨h.len, h.rt, fun y hy hyo => ?_, fun s o hs => ?_, fun q hq => h.low q (hresp q hq)⟩
    · rcases List.mem_append.1 hy with hy | hy
      · exact h.seen y hy hyo
      · obtain rfl := List.mem_singleton.1 hy
        exact absurd hyo hx
    · obtain ⟨y, h1, h2⟩ := h.mem s o hs
      exact ⟨y, by simp [h1], h2⟩
theorem PInv.fold {n : Nat} : ∀ (w2 w1 : List Wire) (st : List Int × (Int → Option Int)), PInv n w1 st → PInv n (w1 ++ w2) (w2.foldl (pstep n) st)
  | [], w1, st, h => by simpa using h
  | x :: w2, w1, st, h => by
    have := PInv.fold w2 (w1 ++ [x]) _ (h.step x)
    simpa using this
theorem prs_inv (n : Nat) (ws : List Wire) : PInv n ws (prs n ws) := by
  have := PInv.fold ws [] _ (PInv.start n)
  rw [List.nil_append] at this
  exact this
theorem PInv.join {n : Nat} {ws : List Wire} {st : List Int × (Int → Option Int)} (h : PInv n ws st) : Resp n ws (pf st.1) := by
  intro x hx y hy hxo hyo e
  obtain ⟨o, h1, h2⟩ := h.seen x hx hxo
  obtain ⟨o', h1', h2'⟩ := h.seen y hy hyo
  rw [← e, h1] at h1'
  cases h1'
  rw [← h2, ← h2']
/-! ### the document's -/
def rstep (n : Nat) (x y : Wire) (out : List Int) : List Int :=
  if okW n x ∧ okW n y ∧ x.2.2 = y.2.2 then (out.set x.1.toNat (min (pf out x.1) (pf out y.1))).set y.1.toNat (min (pf out x.1) (pf out y.1)) else out
def rin (n : Nat) (x : Wire) (ys : List Wire) (out : List Int) : List Int := ys.foldl (fun out y => rstep n x y out) out
def rround (n : Nat) (ws xs : List Wire) (out : List Int) : List Int := xs.foldl (fun out x => rin n x ws out) out
def rrep (n : Nat) (ws : List Wire) : Nat → List Int
  | 0 => ids n
  | k + 1 => rround n ws ws (rrep n ws k)
def rprs (n : Nat) (ws : List Wire) : List Int := rrep n ws n
theorem pf_set {l : List Int} {a i v : Int} (h0 : 0 ≤ a) (h1 : a < l.length) (hi : 0 ≤ i) : pf (l.set a.toNat v) i = if i = a then v else pf l i := by
  unfold pf
  rw [List.getD_eq_getElem?_getD, List.getD_eq_getElem?_getD, List.getElem?_set]
  by_cases h : i = a
  · subst h
    rw [if_pos rfl, if_pos (by omega), if_pos rfl]; rfl
  · rw [if_neg (by omega), if_neg h]
theorem rstep_len (n : Nat) (x y : Wire) (out : List Int) : (rstep n x y out).length = out.length := by unfold rstep; split <;> simp
theorem pf_rstep {n : Nat} {x y : Wire} {out : List Int} (hl : out.length = n) (hx : okW n x) (hy : okW n y) (hs : x.2.2 = y.2.2) {i : Int} (hi : 0 ≤ i) :
    pf (rstep n x y out) i = if i = y.1 ∨ i = x.1 then min (pf out x.1) (pf out y.1) else pf out i := by
  unfold rstep
  rw [if_pos ⟨hx, hy, hs⟩, pf_set hy.1 (by rw [List.length_set, hl]; exact hy.2) hi, pf_set hx.1 (by rw [hl]; exact hx.2) hi]
  by_cases h1 : i = y.1
  · rw [if_pos h1, if_pos (.inl h1)]
  · rw [if_neg h1]
    by_cases h2 : i = x.1
    · rw [if_pos h2, if_pos (.inr h2)]
    · rw [if_neg h2, if_neg (by omega)]
/-- No label is below p's; no label that is p's is lost. -/
structure Up (n : Nat) (p out out' : List Int) : Prop where
  len : out'.length = n
  ge : ∀ i : Int, 0 ≤ i → i < n → pf p i ≤ pf out' i
  keep : ∀ i : Int, 0 ≤ i → i < n → pf out i = pf p i → pf out' i = pf p i
theorem Up.trans {n : Nat} {p a b c : List Int} (h : Up n p a b) (k : Up n p b c) : Up n p a c := ⟨k.len, k.ge, fun i h0 h1 e => k.keep i h0 h1 (h.keep i h0 h1 e)⟩
section
variable {n : Nat} {p : List Int} {ws : List Wire}
theorem rstep_up (hj : Resp n ws (pf p)) {x y : Wire} (hx : x ∈ ws) (hy : y ∈ ws) {out : List Int} (hl : out.length = n) (hg : ∀ i : Int, 0 ≤ i → i < n → pf p i ≤ pf out i) :
    Up n p out (rstep n x y out) ∧ (okW n x → okW n y → x.2.2 = y.2.2 → pf out x.1 = pf p x.1 → pf (rstep n x y out) y.1 = pf p y.1) := by
  by_cases hc : okW n x ∧ okW n y ∧ x.2.2 = y.2.2
  · obtain ⟨ox, oy, hs⟩ := hc
    have hxy := hj x hx y hy ox oy hs
    have gx := hg x.1 ox.1 ox.2
    have gy := hg y.1 oy.1 oy.2
    refine ⟨⟨by rw [rstep_len, hl], fun i h0 h1 => ?_, fun i h0 h1 e => ?_⟩, fun _ _ _ e => ?_⟩
    · rw [pf_rstep hl ox oy hs h0]
      split
      · rename_i hc
        rcases hc with rfl | rfl <;> omega
      · exact hg i h0 h1
    · rw [pf_rstep hl ox oy hs h0]
      split
      · rename_i hc
        rcases hc with rfl | rfl <;> omega
      · exact e
    · rw [pf_rstep hl ox oy hs oy.1, if_pos (.inl rfl)]
      omega
  · have e : rstep n x y out = out := if_neg hc
    rw [e]
    exact ⟨⟨hl, hg, fun i h0 h1 e => e⟩, fun a b c => absurd ⟨a, b, c⟩ hc⟩
theorem rin_up (hj : Resp n ws (pf p)) {x : Wire} (hx : x ∈ ws) : ∀ (ys : List Wire), (∀ y ∈ ys, y ∈ ws) → ∀ {out : List Int}, out.length = n → (∀ i : Int, 0 ≤ i → i < n → pf p i ≤ pf out i) →
    Up n p out (rin n x ys out) ∧ ∀ y ∈ ys, okW n x → okW n y → x.2.2 = y.2.2 → pf out x.1 = pf p x.1 → pf (rin n x ys out) y.1 = pf p y.1
  | [], hy, out, hl, hg => ⟨⟨hl, hg, fun i h0 h1 e => e⟩, fun y h => by cases h⟩
  | z :: ys, hy, out, hl, hg => by
    obtain ⟨u1, s1⟩ := rstep_up hj hx (hy z (by simp)) hl hg
    obtain ⟨u2, s2⟩ := rin_up hj hx ys (fun y h => hy y (by simp [h])) u1.len u1.ge
    refine ⟨u1.trans u2, fun y hyz ox oy hs e => ?_⟩
    rcases List.mem_cons.1 hyz with rfl | hyz
    · exact u2.keep y.1 oy.1 oy.2 (s1 ox oy hs e)
    · exact s2 y hyz ox oy hs (u1.keep x.1 ox.1 ox.2 e)
theorem rround_up (hj : Resp n ws (pf p)) : ∀ (xs : List Wire), (∀ x ∈ xs, x ∈ ws) → ∀ {out : List Int}, out.length = n → (∀ i : Int, 0 ≤ i → i < n → pf p i ≤ pf out i) →
    Up n p out (rround n ws xs out) ∧ ∀ x ∈ xs, ∀ y ∈ ws, okW n x → okW n y → x.2.2 = y.2.2 → pf out x.1 = pf p x.1 → pf (rround n ws xs out) y.1 = pf p y.1
  | [], hx, out, hl, hg => ⟨⟨hl, hg, fun i h0 h1 e => e⟩, fun x h => by cases h⟩
  | z :: xs, hx, out, hl, hg => by
    obtain ⟨u1, s1⟩ := rin_up hj (hx z (by simp)) ws (fun _ h => h) hl hg
    obtain ⟨u2, s2⟩ := rround_up hj xs (fun x h => hx x (by simp [h])) u1.len u1.ge
    refine ⟨u1.trans u2, fun x hxz y hy ox oy hs e => ?_⟩
    rcases List.mem_cons.1 hxz with rfl | hxz
    · exact u2.keep y.1 oy.1 oy.2 (s1 y hy ox oy hs e)
    · exact s2 x hxz y hy ox oy hs (u1.keep x.1 ox.1 ox.2 e)
end
theorem countP_lt {α : Type} {P Q : α → Bool} : ∀ {l : List α}, (∀ x ∈ l, P x = true → Q x = true) → (∃ x ∈ l, Q x = true ∧ P x = false) → l.countP P < l.countP Q
  | [], _, h => by obtain ⟨x, h, _⟩ := h; cases h
  | a :: l, hm, h => by
    have hle : l.countP P ≤ l.countP Q := List.countP_mono_left (fun x hx => hm x (by simp [hx]))
    rw [List.countP_cons, List.countP_cons]
    obtain ⟨x, hx, hq, hp⟩ := h
    rcases List.mem_cons.1 hx with rfl | hx
    · simp [hq, hp]; omega
    · have := countP_lt (l := l) (fun x hx => hm x (by simp [hx])) ⟨x, hx, hq, hp⟩
      have ha := hm a (by simp)
      cases hpa : P a
      · simp; split <;> omega
      · simp [ha hpa]; exact this
/-- How many labels are p's. -/
def cnt (n : Nat) (p out : List Int) : Nat := (List.range n).countP fun (i : Nat) => decide (pf out i = pf p i)
theorem rrep_good {n : Nat} {ws : List Wire} {st : List Int × (Int → Option Int)} (h : PInv n ws st) : ∀ k, Up n st.1 (ids n) (rrep n ws k) ∧ ((∀ i : Int, 0 ≤ i → i < n → pf (rrep n ws k) i = pf st.1 i) ∨ k ≤ cnt n st.1 (rrep n ws k))
  | 0 => by
    refine ⟨⟨ids_len n, fun i h0 h1 => ?_, fun i h0 h1 e => e⟩, .inr (Nat.zero_le _)⟩
    simp only [rrep]
    rw [pf_ids h0 h1]; exact (h.rt i h0 h1).2.1
  | k + 1 => by
    obtain ⟨u, hk⟩ := rrep_good h k
    obtain ⟨u2, s2⟩ := rround_up h.join ws (fun _ h => h) u.len u.ge
    refine ⟨u.trans u2, ?_⟩
    rcases hk with hk | hk
    · exact .inl (fun i h0 h1 => u2.keep i h0 h1 (hk i h0 h1))
    · by_cases hall : ∀ i : Int, 0 ≤ i → i < n → pf (rrep n ws k) i = pf st.1 i
      · exact .inl (fun i h0 h1 => u2.keep i h0 h1 (hall i h0 h1))
      · right
        have hroot : ∀ i : Int, 0 ≤ i → i < n → pf (rrep n ws k) (pf st.1 i) = pf st.1 (pf st.1 i) := fun i h0 h1 => by
          have r := h.rt i h0 h1
          refine u.keep _ r.1 (by omega) ?_
          rw [pf_ids r.1 (by omega), r.2.2]
        have hex : ∃ x ∈ ws, ∃ y ∈ ws, okW n x ∧ okW n y ∧ x.2.2 = y.2.2 ∧ pf (rrep n ws k) x.1 = pf st.1 x.1 ∧ pf (rrep n ws k) y.1 ≠ pf st.1 y.1 := by
          refine Classical.byContradiction fun hno => hall fun i h0 h1 => ?_
          have hr : Resp n ws (fun j => if pf (rrep n ws k) j = pf st.1 j then 2 * pf st.1 j else 2 * pf st.1 j + 1) := by
            intro x hx y hy ox oy hs
            have hxy := h.join x hx y hy ox oy hs
            by_cases e1 : pf (rrep n ws k) x.1 = pf st.1 x.1
            · by_cases e2 : pf (rrep n ws k) y.1 = pf st.1 y.1
              · show (if _ then _ else _) = (if _ then _ else _)
                rw [if_pos e1, if_pos e2, hxy]
              · exact absurd ⟨x, hx, y, hy, ox, oy, hs, e1, e2⟩ hno
            · by_cases e2 : pf (rrep n ws k) y.1 = pf st.1 y.1
              · exact absurd ⟨y, hy, x, hx, oy, ox, hs.symm, e2, e1⟩ hno
              · show (if _ then _ else _) = (if _ then _ else _)
                rw [if_neg e1, if_neg e2, hxy]
          have hq := h.low _ hr i h0 h1
          have hq : (if pf (rrep n ws k) (pf st.1 i) = pf st.1 (pf st.1 i) then 2 * pf st.1 (pf st.1 i) else 2 * pf st.1 (pf st.1 i) + 1) = (if pf (rrep n ws k) i = pf st.1 i then 2 * pf st.1 i else 2 * pf st.1 i + 1) := hq
          rw [if_pos (hroot i h0 h1), (h.rt i h0 h1).2.2] at hq
          by_cases e : pf (rrep n ws k) i = pf st.1 i
          · exact e
          · rw [if_neg e] at hq; omega
        obtain ⟨x, hx, y, hy, ox, oy, hs, e1, e2⟩ := hex
        have e3 := s2 x hx y hy ox oy hs e1
        refine Nat.lt_of_le_of_lt hk (countP_lt (fun i hi hP => ?_) ⟨y.1.toNat, List.mem_range.2 (by have := oy.1; have := oy.2; omega), ?_, ?_⟩)
        · have hi := List.mem_range.1 hi
          exact decide_eq_true (u2.keep i (by omega) (by omega) (of_decide_eq_true hP))
        · rw [Int.toNat_of_nonneg oy.1]; exact decide_eq_true e3
        · rw [Int.toNat_of_nonneg oy.1]; exact decide_eq_false e2
/-- The document's rounds come to the program's labels. -/
theorem rprs_eq (n : Nat) (ws : List Wire) : rprs n ws = (prs n ws).1 := by
  have h := prs_inv n ws
  obtain ⟨u, hk⟩ := rrep_good h n
  refine pf_ext u.len h.len (fun i h0 h1 => ?_)
  rcases hk with hk | hk
  · exact hk i h0 h1
  · have hle : cnt n (prs n ws).1 (rrep n ws n) ≤ n := by have := List.countP_le_length (p := fun (i : Nat) => decide (pf (rrep n ws n) i = pf (prs n ws).1 i)) (l := List.range n); simpa [cnt] using this
    have he : cnt n (prs n ws).1 (rrep n ws n) = (List.range n).length := by rw [List.length_range]; omega
    have := List.countP_eq_length.1 he i.toNat (List.mem_range.2 (by omega))
    rw [Int.toNat_of_nonneg h0] at this
    exact of_decide_eq_true this
end Go.Proofs.Yteopnaacmpcbnaa
