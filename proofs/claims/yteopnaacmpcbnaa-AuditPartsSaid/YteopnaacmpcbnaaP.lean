/-
  Chains and circles, in plain words: no program in sight. No condition.
-/
import Derived.Test.YteopnaacmpcbnaaB
namespace Go.Proofs.Yteopnaacmpcbnaa
set_option linter.unusedVariables false

/-- From f, along nx through l, one comes to g. -/
def Path (nx : List Int) : Int → List Int → Int → Prop
  | f, [], g => g = f
  | f, x :: l, g => x = f ∧ (0 ≤ f ∧ f < nx.length) ∧ Path nx (nx.getD f.toNat 0) l g
theorem Path.snoc {nx : List Int} {g : Int} (h0 : 0 ≤ g) (h1 : g < nx.length) : ∀ {l : List Int} {f : Int}, Path nx f l g → Path nx f (l ++ [g]) (nx.getD g.toNat 0)
  | [], f, h => by cases h; exact ⟨rfl, ⟨h0, h1⟩, rfl⟩
  | x :: l, f, h => ⟨h.1, h.2.1, Path.snoc h0 h1 h.2.2⟩
theorem Path.inr {nx : List Int} {g : Int} : ∀ {l : List Int} {f : Int}, Path nx f l g → ∀ x ∈ l, 0 ≤ x ∧ x < nx.length
  | [], f, h => by simp
  | y :: l, f, h => by
    intro x hx
    rcases List.mem_cons.1 hx with rfl | hx
    · rw [h.1]; exact h.2.1
    · exact Path.inr h.2.2 x hx
theorem Path.split {nx : List Int} {g : Int} : ∀ {a b : List Int} {f : Int}, Path nx f (a ++ b) g → ∃ m, Path nx f a m ∧ Path nx m b g
  | [], b, f, h => ⟨f, rfl, h⟩
  | x :: a, b, f, h => by
    obtain ⟨m, h1, h2⟩ := Path.split (a := a) h.2.2
    exact ⟨m, ⟨h.1, h.2.1, h1⟩, h2⟩
theorem Path.head {nx : List Int} {g : Int} : ∀ {l : List Int} {f : Int}, Path nx f l g → (l ++ [g])[0]? = some f
  | [], f, h => by cases h; rfl
  | x :: l, f, h => by simp [h.1]
theorem Path.step {nx : List Int} {g : Int} : ∀ {l : List Int} {f : Int}, Path nx f l g → ∀ (i : Nat) (x : Int), l[i]? = some x → (l ++ [g])[i + 1]? = some (nx.getD x.toNat 0)
  | [], f, h, i, x, hi => by simp at hi
  | y :: l, f, h, 0, x, hi => by
    simp at hi
    subst hi
    have := Path.head h.2.2
    rw [List.cons_append, List.getElem?_cons_succ, this, h.1]
  | y :: l, f, h, i + 1, x, hi => by
    rw [List.cons_append, List.getElem?_cons_succ]
    exact Path.step h.2.2 i x (by simpa using hi)
theorem Path.both {nx : List Int} {g g' : Int} : ∀ {l l' : List Int} {f : Int}, Path nx f l g → Path nx f l' g' → (∃ m, l' = l ++ m ∧ Path nx g m g') ∨ (∃ m, l = l' ++ m ∧ Path nx g' m g)
  | [], l', f, h, h' => .inl ⟨l', rfl, by cases h; exact h'⟩
  | x :: l, [], f, h, h' => .inr ⟨x :: l, rfl, by cases h'; exact h⟩
  | x :: l, y :: l', f, h, h' => by
    have e : x = y := h.1.trans h'.1.symm
    subst e
    rcases Path.both h.2.2 h'.2.2 with ⟨m, rfl, k⟩ | ⟨m, rfl, k⟩
    · exact .inl ⟨m, rfl, k⟩
    · exact .inr ⟨m, rfl, k⟩
/-- The last of a list. -/
def lastv (l : List Int) : Int := l.getD (l.length - 1) 0
theorem lastv_get {l : List Int} (h : 0 < l.length) : l[l.length - 1]? = some (lastv l) := by
  unfold lastv
  rw [List.getD_eq_getElem?_getD, List.getElem?_eq_getElem (show l.length - 1 < l.length by omega)]; rfl
theorem Path.last {nx l : List Int} {f g : Int} (h : Path nx f l g) (hl : 0 < l.length) : nx.getD (lastv l).toNat 0 = g := by
  have := h.step _ _ (lastv_get hl)
  rw [show l.length - 1 + 1 = l.length by omega, List.getElem?_append_right (Nat.le_refl _)] at this
  simp at this
  simpa using this.symm

/-- What a chain is: a number and those behind it, until one is out or comes again. -/
def ChainR (nx : List Int) (f : Int) (l : List Int) (e : Bool) : Prop :=
  ∃ g, Path nx f l g ∧ l.Nodup ∧ ((g ∈ l ∧ e = false) ∨ (¬ (0 ≤ g ∧ g < nx.length) ∧ e = decide (0 < l.length)))
theorem chain_end {nx l m : List Int} {f g g' : Int} {e : Bool} (hp : Path nx f l g) (hs : (g ∈ l ∧ e = false) ∨ (¬ (0 ≤ g ∧ g < nx.length) ∧ e = decide (0 < l.length))) (hm : Path nx g m g') (hn : (l ++ m).Nodup) : m = [] := by
  cases m with
  | nil => rfl
  | cons y m =>
    exfalso
    have hy := hm.1
    subst hy
    rcases hs with ⟨h, -⟩ | ⟨h, -⟩
    · have := (List.nodup_append.1 hn).2.2 y h y (by simp)
      exact this rfl
    · exact h hm.2.1
theorem chain_flag {nx l : List Int} {f g : Int} {e e' : Bool} (hp : Path nx f l g) (hs : (g ∈ l ∧ e = false) ∨ (¬ (0 ≤ g ∧ g < nx.length) ∧ e = decide (0 < l.length))) (hs' : (g ∈ l ∧ e' = false) ∨ (¬ (0 ≤ g ∧ g < nx.length) ∧ e' = decide (0 < l.length))) : e = e' := by
  rcases hs with ⟨h, rfl⟩ | ⟨h, rfl⟩ <;> rcases hs' with ⟨h', rfl⟩ | ⟨h', rfl⟩
  · rfl
  · exact absurd (hp.inr g h) h'
  · exact absurd (hp.inr g h') h
  · rfl
theorem ChainR.unique {nx l l' : List Int} {f : Int} {e e' : Bool} (h : ChainR nx f l e) (h' : ChainR nx f l' e') : l = l' ∧ e = e' := by
  obtain ⟨g, hp, hn, hs⟩ := h
  obtain ⟨g', hp', hn', hs'⟩ := h'
  rcases hp.both hp' with ⟨m, rfl, k⟩ | ⟨m, rfl, k⟩
  · obtain rfl := chain_end hp hs k hn'
    cases k
    rw [List.append_nil] at *
    exact ⟨rfl, chain_flag hp hs hs'⟩
  · obtain rfl := chain_end hp' hs' k hn
    cases k
    rw [List.append_nil] at *
    exact ⟨rfl, chain_flag hp hs hs'⟩
theorem ChainR.ne {nx l : List Int} {f : Int} {e : Bool} (h : ChainR nx f l e) (h0 : 0 ≤ f) (h1 : f < nx.length) : 0 < l.length := by
  obtain ⟨g, hp, hn, hs⟩ := h
  cases l with
  | nil =>
    cases hp
    rcases hs with ⟨h, -⟩ | ⟨h, -⟩
    · simp at h
    · exact absurd ⟨h0, h1⟩ h
  | cons x l => simp
theorem ChainR.inr {nx l : List Int} {f : Int} {e : Bool} (h : ChainR nx f l e) : ∀ x ∈ l, 0 ≤ x ∧ x < nx.length := by
  obtain ⟨g, hp, hn, hs⟩ := h
  exact hp.inr
/-- The numbers 0 to n - 1, each at most once, are at most n. -/
theorem nodup_len : ∀ (n : Nat) (l : List Int), l.Nodup → (∀ x ∈ l, 0 ≤ x ∧ x < n) → l.length ≤ n
  | 0, l, hn, h => by
    cases l with
    | nil => simp
    | cons x l => have := h x (by simp); omega
  | n + 1, l, hn, h => by
    have h1 := nodup_len n (l.erase n) (hn.erase _) (fun x hx => by
      have hx' := (List.Nodup.mem_erase_iff hn).1 hx
      have := h x hx'.2
      have := hx'.1
      omega)
    have h2 : l.length ≤ (l.erase n).length + 1 := by rw [List.length_erase]; split <;> omega
    omega
theorem ChainR.len {nx l : List Int} {f : Int} {e : Bool} (h : ChainR nx f l e) : l.length ≤ nx.length := by
  obtain ⟨g, hp, hn, hs⟩ := h
  exact nodup_len _ _ hn hp.inr
/-- A number whose chain comes back to it. -/
def Circ (nx : List Int) (i : Int) : Prop := ∃ l, ChainR nx i l false ∧ nx.getD (lastv l).toNat 0 = i
/-- The first circle. -/
def LoopR (nx : List Int) (l : List Int) (ok : Bool) : Prop :=
  (∃ i : Nat, i < nx.length ∧ ChainR nx i l false ∧ nx.getD (lastv l).toNat 0 = i ∧ ok = true ∧ ∀ j : Nat, j < i → ¬ Circ nx j) ∨ (l = [] ∧ ok = false ∧ ∀ j : Nat, j < nx.length → ¬ Circ nx j)
theorem LoopR.unique {nx l l' : List Int} {e e' : Bool} (h : LoopR nx l e) (h' : LoopR nx l' e') : l = l' ∧ e = e' := by
  rcases h with ⟨i, h1, h2, h3, h4, h5⟩ | ⟨h1, h2, h3⟩ <;> rcases h' with ⟨i', h1', h2', h3', h4', h5'⟩ | ⟨h1', h2', h3'⟩
  · have : i = i' := by
      rcases Nat.lt_trichotomy i i' with h | h | h
      · exact absurd ⟨l, h2, h3⟩ (h5' i h)
      · exact h
      · exact absurd ⟨l', h2', h3'⟩ (h5 i' h)
    subst this
    exact ⟨(h2.unique h2').1, by rw [h4, h4']⟩
  · exact absurd ⟨l, h2, h3⟩ (h3' i h1)
  · exact absurd ⟨l', h2', h3'⟩ (h3 i' h1')
  · exact ⟨by rw [h1, h1'], by rw [h2, h2']⟩
theorem LoopR.len {nx l : List Int} {e : Bool} (h : LoopR nx l e) : l.length ≤ nx.length := by
  rcases h with ⟨i, -, h, -⟩ | ⟨rfl, -⟩
  · exact h.len
  · simp
/-- A chain that does not end holds a circle. -/
theorem ChainR.circ {nx l : List Int} {f : Int} (h : ChainR nx f l false) (hl : 0 < l.length) : ∃ j : Nat, j < nx.length ∧ Circ nx j := by
  obtain ⟨g, hp, hn, ⟨hs, -⟩ | ⟨-, hs⟩⟩ := h
  · obtain ⟨a, b, rfl⟩ := List.append_of_mem hs
    have hg := hp.inr g (by simp)
    obtain ⟨m, h1, h2⟩ := hp.split
    have hm : g = m := h2.1
    subst hm
    have hnb : (g :: b).Nodup := (List.nodup_append.1 hn).2.1
    refine ⟨g.toNat, by omega, g :: b, ?_, ?_⟩
    · rw [Int.toNat_of_nonneg hg.1]
      exact ⟨g, h2, hnb, .inl ⟨by simp, rfl⟩⟩
    · rw [Int.toNat_of_nonneg hg.1]
      exact h2.last (by simp)
  · rw [decide_eq_true hl] at hs; cases hs
/-- There is a circle, or every chain ends. -/
theorem LoopR.either {nx l : List Int} {ok : Bool} (h : LoopR nx l ok) (E : Nat → Bool) (hE : ∀ i, i < nx.length → ∃ c, ChainR nx i c (E i)) : ok = !((List.range nx.length).all E) := by
  rcases h with ⟨i, h1, h2, h3, rfl, h5⟩ | ⟨h1, rfl, h3⟩
  · obtain ⟨c, hc⟩ := hE i h1
    have := (hc.unique h2).2
    have : (List.range nx.length).all E = false := by
      rw [Bool.eq_false_iff]
      intro ha
      have := List.all_eq_true.1 ha i (List.mem_range.2 h1)
      simp_all
    rw [this]; rfl
  · have : (List.range nx.length).all E = true := by
      rw [List.all_eq_true]
      intro i hi
      have hi := List.mem_range.1 hi
      obtain ⟨c, hc⟩ := hE i hi
      cases he : E i with
      | true => rfl
      | false =>
        rw [he] at hc
        obtain ⟨j, hj, hcirc⟩ := hc.circ (hc.ne (by omega) (by omega))
        exact absurd hcirc (h3 j hj)
    rw [this]; rfl
/-- A circle is one. -/
theorem LoopR.round {nx l : List Int} {ok : Bool} (h : LoopR nx l ok) {i : Nat} {x : Int} (hx : l[i]? = some x) : 0 ≤ x ∧ x < nx.length ∧ l[(i + 1) % l.length]? = some (nx.getD x.toNat 0) := by
  have hi : i < l.length := (List.getElem?_eq_some_iff.1 hx).1
  rcases h with ⟨i0, h1, ⟨g, hp, hn, hs⟩, h3, rfl, h5⟩ | ⟨rfl, rfl, h3⟩
  · obtain ⟨r1, r2⟩ := hp.inr x (List.mem_of_getElem? hx)
    refine ⟨r1, r2, ?_⟩
    have hst := hp.step i x hx
    have hg : g = i0 := (hp.last (by omega)).symm.trans h3
    by_cases hc : i + 1 < l.length
    · rw [Nat.mod_eq_of_lt hc, ← hst, List.getElem?_append_left hc]
    · have : i + 1 = l.length := by omega
      rw [this] at hst ⊢
      rw [Nat.mod_self]
      rw [List.getElem?_append_right (Nat.le_refl _)] at hst
      simp at hst
      have hh := hp.head
      rw [List.getElem?_append_left (by omega)] at hh
      rw [hh]
      simp
      rw [← hg, hst]
  · simp at hi
theorem ChainR.out {nx l : List Int} {f : Int} {e : Bool} (h : ChainR nx f l e) (hf : ¬ (0 ≤ f ∧ f < nx.length)) : l = [] ∧ e = false := by
  obtain ⟨g, hp, hn, hs⟩ := h
  cases l with
  | cons x l => exact absurd hp.2.1 hf
  | nil =>
    refine ⟨rfl, ?_⟩
    rcases hs with ⟨h, -⟩ | ⟨-, h⟩
    · simp at h
    · simpa using h
/-- What AuditChains asks of a chain. -/
theorem ChainR.all {nx l : List Int} {f : Int} {e : Bool} (h : ChainR nx f l e) (h0 : 0 ≤ f) (h1 : f < nx.length) :
    0 < l.length ∧ l.length ≤ nx.length ∧ l[0]? = some f ∧ (∀ x ∈ l, 0 ≤ x ∧ x < nx.length) ∧ (∀ (i : Nat) (x : Int), i + 1 < l.length → l[i]? = some x → l[i + 1]? = some (nx.getD x.toNat 0)) ∧ l.Nodup ∧
      e = (decide (nx.getD (lastv l).toNat 0 < 0) || decide (nx.getD (lastv l).toNat 0 ≥ nx.length)) := by
  have hl := h.ne h0 h1
  have hl2 := h.len
  obtain ⟨g, hp, hn, hs⟩ := h
  have hh := hp.head
  rw [List.getElem?_append_left (by omega)] at hh
  refine ⟨hl, hl2, hh, hp.inr, fun i x hi hx => ?_, hn, ?_⟩
  · have := hp.step i x hx
    rwa [List.getElem?_append_left hi] at this
  · rw [hp.last hl]
    rcases hs with ⟨hg, rfl⟩ | ⟨hg, rfl⟩
    · have := hp.inr g hg
      rw [decide_eq_false (by omega), decide_eq_false (by omega)]; rfl
    · rw [decide_eq_true hl]
      by_cases hc : g < 0
      · rw [decide_eq_true hc]; rfl
      · rw [decide_eq_true (show g ≥ nx.length by omega)]; simp
end Go.Proofs.Yteopnaacmpcbnaa
