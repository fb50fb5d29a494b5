/-
  Addresses and prefixes: the plain laws, no program in sight. Condition: an address is sixteen bytes.
-/
import Derived.Test.YtnljjlaececnkaaGreatDoorB
import Derived.Lib.Small
namespace Go.Proofs.YtnljjlaececnkaaGreatDoor
open Go.RowKit
set_option linter.unusedVariables false
set_option linter.unusedSimpArgs false

theorem mskB_fin : ∀ x : Fin 256, ∀ k : Fin 9, ∀ j : Fin 9, j.val ≤ k.val → mskB (mskB x.val k.val) j.val = mskB x.val j.val := by decide +kernel
theorem mskB_rng : ∀ x : Fin 256, ∀ k : Fin 9, 0 ≤ mskB x.val k.val ∧ mskB x.val k.val < 256 := by decide +kernel
theorem mskB_all : ∀ x : Fin 256, mskB x.val 8 = x.val ∧ mskB x.val 0 = 0 := by decide +kernel
theorem byte_fin {x : Int} (h : 0 ≤ x ∧ x < 256) : ∃ f : Fin 256, x = f.val := ⟨⟨x.toNat, by omega⟩, by simp; omega⟩
theorem keep_le (n : Int) (i : Nat) : keepOf n i ≤ 8 := by unfold keepOf; omega
theorem keep_mono {n m : Int} (h : n ≤ m) (i : Nat) : keepOf n i ≤ keepOf m i := by unfold keepOf; omega
theorem mskB_mskB {x : Int} (hx : 0 ≤ x ∧ x < 256) {j k : Nat} (hk : k ≤ 8) (h : j ≤ k) : mskB (mskB x k) j = mskB x j := by
  obtain ⟨f, rfl⟩ := byte_fin hx
  exact mskB_fin f ⟨k, by omega⟩ ⟨j, by omega⟩ h
theorem mskB_byte {x : Int} (hx : 0 ≤ x ∧ x < 256) {k : Nat} (hk : k ≤ 8) : 0 ≤ mskB x k ∧ mskB x k < 256 := by
  obtain ⟨f, rfl⟩ := byte_fin hx
  exact mskB_rng f ⟨k, by omega⟩
theorem msk_none {a : List Int} {n : Int} {j : Nat} (h : a[j]? = none) : (msk a n)[j]? = none := by simp [msk, h]
theorem isA_msk {a : List Int} (ha : isA a) (n : Int) : isA (msk a n) := by
  refine ⟨by rw [msk_len]; exact ha.1, fun x hx => ?_⟩
  obtain ⟨j, hj, rfl⟩ := List.mem_iff_getElem.1 hx
  obtain ⟨y, hy⟩ := get_some (l := a) (j := j) (by rwa [msk_len] at hj)
  have h1 := msk_get (n := n) hy
  rw [List.getElem?_eq_getElem hj] at h1
  rw [Option.some.inj h1]
  exact mskB_byte (ha.2 y (List.mem_of_getElem? hy)) (keep_le _ _)
/-- Masked twice. -/
theorem msk_msk {a : List Int} (ha : isA a) {n m : Int} (h : n ≤ m) : msk (msk a m) n = msk a n := by
  apply List.ext_getElem?
  intro j
  rcases hj : a[j]? with _ | x
  · rw [msk_none (msk_none hj), msk_none hj]
  · rw [msk_get (msk_get hj), msk_get hj, mskB_mskB (ha.2 x (List.mem_of_getElem? hj)) (keep_le _ _) (keep_mono h _)]
/-- The bytes ahead of the mask. -/
theorem msk_take {a : List Int} (ha : isA a) {n : Int} {k : Nat} (h : (8 * k : Int) ≤ n) : (msk a n).take k = a.take k := by
  apply List.ext_getElem?
  intro j
  rw [List.getElem?_take, List.getElem?_take]
  split
  · rename_i hj
    rcases hx : a[j]? with _ | x
    · rw [msk_none hx]
    · rw [msk_get hx]
      have e : keepOf n j = 8 := by unfold keepOf; omega
      obtain ⟨f, rfl⟩ := byte_fin (ha.2 x (List.mem_of_getElem? hx))
      rw [e, (mskB_all f).1]
  · rfl
/-- .. and behind it. -/
theorem msk_zero {a : List Int} (ha : isA a) {n : Int} {j : Nat} (hj : j < 16) (h : n ≤ 8 * j) : (msk a n)[j]? = some 0 := by
  obtain ⟨x, hx⟩ := get_some (l := a) (j := j) (by rw [ha.1]; exact hj)
  rw [msk_get hx]
  have e : keepOf n j = 0 := by unfold keepOf; omega
  obtain ⟨f, rfl⟩ := byte_fin (ha.2 x (List.mem_of_getElem? hx))
  rw [e, (mskB_all f).2]

/-- How an IPv4 address begins. -/
def mapd : List Int := [0, 0, 0, 0, 0, 0, 0, 0, 0, 0, 255, 255]
def fam (a : List Int) : Int := if a.take 12 = mapd then 4 else 6
theorem fam_or (a : List Int) : fam a = 4 ∨ fam a = 6 := by unfold fam; split <;> simp
def zeroA : List Int := List.replicate 16 0
structure Pf where
  a : List Int
  n : Int
deriving DecidableEq
structure Pr where
  d : Pf
  s : Pf
deriving DecidableEq
def zeroP : Pf := ⟨zeroA, 0⟩
def chk (p : Pf) : Bool := decide (0 ≤ p.n) && decide (p.n ≤ 128) && decide (msk p.a p.n = p.a)
def cont (p : Pf) (a : List Int) : Bool := chk p && decide (msk a p.n = p.a)
def cov (p q : Pf) : Bool := chk q && decide (p.n ≤ q.n) && cont p q.a
def pfam (p : Pf) : Int := if p.n < 96 then 6 else fam p.a
def offOf (f : Int) : Int := if f = 4 then 96 else 0
def anyP (f : Int) : Pf := if f = 4 then ⟨mapd ++ [0, 0, 0, 0], 96⟩ else zeroP
/-- The prefix of an address's first bits; none: it is refused. -/
def ofP (a : List Int) (n : Int) : Option Pf := if 0 ≤ n ∧ n ≤ 128 - offOf (fam a) then some ⟨msk a (offOf (fam a) + n), offOf (fam a) + n⟩ else none

theorem chk_iff (p : Pf) : chk p = true ↔ 0 ≤ p.n ∧ p.n ≤ 128 ∧ msk p.a p.n = p.a := by simp [chk, and_assoc]
theorem cont_iff (p : Pf) (a : List Int) : cont p a = true ↔ chk p = true ∧ msk a p.n = p.a := by simp [cont]
theorem cov_iff (p q : Pf) : cov p q = true ↔ chk q = true ∧ p.n ≤ q.n ∧ chk p = true ∧ msk q.a p.n = p.a := by simp [cov, cont_iff, and_assoc]
theorem cov_refl {p : Pf} (h : chk p = true) : cov p p = true := (cov_iff p p).2 ⟨h, Int.le_refl _, h, ((chk_iff p).1 h).2.2⟩
theorem cov_of {p q : Pf} {a : List Int} (ha : isA a) (hp : cont p a = true) (hq : cont q a = true) (h : p.n ≤ q.n) : cov p q = true := by
  obtain ⟨p1, p2⟩ := (cont_iff _ _).1 hp
  obtain ⟨q1, q2⟩ := (cont_iff _ _).1 hq
  exact (cov_iff p q).2 ⟨q1, h, p1, by rw [← q2, msk_msk ha h, p2]⟩
/-- The law of the tree. -/
theorem tree_plain {p q : Pf} {a : List Int} (ha : isA a) (hp : chk p = true) (hq : chk q = true) :
    (cont p a = true → cont q a = true → cov p q = true ∨ cov q p = true) ∧ cov p p = true ∧ ((cov p q && cov q p) = decide (p = q)) := by
  refine ⟨fun h1 h2 => ?_, cov_refl hp, ?_⟩
  · rcases Int.le_total p.n q.n with h | h
    · exact .inl (cov_of ha h1 h2 h)
    · exact .inr (cov_of ha h2 h1 h)
  · rw [Bool.eq_iff_iff]
    simp only [Bool.and_eq_true, decide_eq_true_eq]
    constructor
    · rintro ⟨h1, h2⟩
      obtain ⟨-, e1, -, e2⟩ := (cov_iff p q).1 h1
      obtain ⟨-, e3, -, -⟩ := (cov_iff q p).1 h2
      obtain ⟨-, -, q3⟩ := (chk_iff q).1 hq
      obtain ⟨pa, pn⟩ := p; obtain ⟨qa, qn⟩ := q
      simp only at *
      obtain rfl : pn = qn := by omega
      rw [← e2, q3]
    · rintro rfl
      exact ⟨cov_refl hp, cov_refl hp⟩
theorem fam_msk {a : List Int} (ha : isA a) {n : Int} (h : 96 ≤ n) : fam (msk a n) = fam a := by unfold fam; rw [msk_take ha (by omega)]
theorem chk_msk {a : List Int} (ha : isA a) {n : Int} (h0 : 0 ≤ n) (h1 : n ≤ 128) : chk ⟨msk a n, n⟩ = true := (chk_iff _).2 ⟨h0, h1, msk_msk ha (Int.le_refl _)⟩
theorem any_eq {a : List Int} (ha : isA a) : anyP (fam a) = ⟨msk a (offOf (fam a)), offOf (fam a)⟩ := by
  have hz : ∀ j, 12 ≤ j → j < 16 → (msk a 96)[j]? = some 0 := fun j h1 h2 => msk_zero ha h2 (by omega)
  rcases fam_or a with h | h
  · have h12 : a.take 12 = mapd := by
      unfold fam at h
      split at h
      · assumption
      · omega
    rw [h, show offOf 4 = 96 from rfl, show anyP 4 = ⟨mapd ++ [0, 0, 0, 0], 96⟩ from rfl, Pf.mk.injEq]
    refine ⟨?_, rfl⟩
    rw [← List.take_append_drop 12 (msk a 96), msk_take ha (by omega), h12]
    congr 1
    apply List.ext_getElem?
    intro j
    rw [List.getElem?_drop]
    by_cases hj : j < 4
    · rw [hz _ (by omega) (by omega)]
      match j, hj with
      | 0, _ | 1, _ | 2, _ | 3, _ => rfl
    · rw [List.getElem?_eq_none (by simp; omega), List.getElem?_eq_none (by rw [msk_len, ha.1]; omega)]
  · rw [h, show offOf 6 = 0 from rfl, show anyP 6 = ⟨zeroA, 0⟩ from rfl, Pf.mk.injEq]
    refine ⟨?_, rfl⟩
    apply List.ext_getElem?
    intro j
    by_cases hj : j < 16
    · rw [msk_zero ha hj (by omega), zeroA, List.getElem?_replicate, if_pos hj]
    · rw [List.getElem?_eq_none (by simp [zeroA]; omega), List.getElem?_eq_none (by rw [msk_len, ha.1]; omega)]
/-- The law of the first bits. -/
theorem first_plain {a : List Int} (ha : isA a) {n m : Int} {p q : Pf} (hp : ofP a n = some p) (hq : ofP a m = some q) :
    chk p = true ∧ cont p a = true ∧ pfam p = fam a ∧ cov p q = decide (n ≤ m) ∧ cov (anyP (fam a)) p = true := by
  unfold ofP at hp hq
  split at hp
  · split at hq
    · rename_i h1 h2
      cases hp; cases hq
      have ho : offOf (fam a) = 96 ∨ offOf (fam a) = 0 := by unfold offOf; split <;> simp
      have h0 : 0 ≤ offOf (fam a) := by omega
      have c1 := chk_msk ha (n := offOf (fam a) + n) (by omega) (by omega)
      have c2 := chk_msk ha (n := offOf (fam a) + m) (by omega) (by omega)
      refine ⟨c1, (cont_iff _ _).2 ⟨c1, rfl⟩, ?_, ?_, ?_⟩
      · simp only [pfam]
        split
        · rename_i h
          rcases fam_or a with h3 | h3
          · rw [h3] at h; simp [offOf] at h; omega
          · exact h3.symm
        · exact fam_msk ha (by omega)
      · rw [Bool.eq_iff_iff, cov_iff, decide_eq_true_eq]
        constructor
        · rintro ⟨-, h, -, -⟩; simp only at h; omega
        · intro h
          exact ⟨c2, by show offOf (fam a) + n ≤ offOf (fam a) + m; omega, c1, msk_msk ha (show offOf (fam a) + n ≤ offOf (fam a) + m by omega)⟩
      · rw [any_eq ha, cov_iff]
        exact ⟨c1, by show offOf (fam a) ≤ offOf (fam a) + n; omega, chk_msk ha h0 (by omega), msk_msk ha (show offOf (fam a) ≤ offOf (fam a) + n by omega)⟩
    · cases hq
  · cases hp
theorem ofP_ok {a : List Int} {n : Int} {p : Pf} (ha : isA a) (h : ofP a n = some p) : isA p.a ∧ 0 ≤ p.n ∧ p.n ≤ 128 := by
  unfold ofP at h
  split at h
  · rename_i h1
    cases h
    have ho : offOf (fam a) = 96 ∨ offOf (fam a) = 0 := by unfold offOf; split <;> simp
    exact ⟨isA_msk ha _, by simp only; omega, by simp only; omega⟩
  · cases h

/-! ### orders -/
/-- The first place where two lists are not alike. -/
def lexc : List Int → List Int → Int
  | x :: xs, y :: ys => if x < y then -1 else if y < x then 1 else lexc xs ys
  | _, _ => 0
theorem lexc_rng (a b : List Int) : lexc a b = -1 ∨ lexc a b = 0 ∨ lexc a b = 1 := by
  fun_induction lexc a b <;> simp_all
theorem lexc_neg : ∀ (a b : List Int), lexc a b = - lexc b a
  | x :: a, y :: b => by
    have ih := lexc_neg a b
    unfold lexc
    repeat' split
    all_goals first
      | omega
      | exact ih
  | [], [] => rfl
  | [], _ :: _ => rfl
  | _ :: _, [] => rfl
theorem lexc_zero : ∀ (a b : List Int), a.length = b.length → (lexc a b = 0 ↔ a = b)
  | [], [], _ => by simp [lexc]
  | x :: a, y :: b, h => by
    have ih := lexc_zero a b (by simpa using h)
    unfold lexc
    split
    · rename_i h1; constructor
      · intro h; omega
      · intro h; cases h; omega
    · split
      · rename_i h1; constructor
        · intro h; omega
        · intro h; cases h; omega
      · obtain rfl : x = y := by omega
        rw [ih]; simp
  | [], _ :: _, h => by simp at h
  | _ :: _, [], h => by simp at h
theorem lexc_trans : ∀ (a b c : List Int), a.length = b.length → b.length = c.length → lexc a b ≤ 0 → lexc b c ≤ 0 → lexc a c ≤ 0 ∧ (lexc a b < 0 → lexc a c < 0)
  | [], [], [], _, _ => by simp [lexc]
  | x :: a, y :: b, z :: c, h1, h2 => by
    have ih := lexc_trans a b c (by simpa using h1) (by simpa using h2)
    unfold lexc
    repeat' split
    all_goals first
      | omega
      | (intro h3 h4; omega)
      | exact ih
      | (intro h3 h4; exact ⟨by omega, fun _ => by omega⟩)
  | [], [], _ :: _, h1, h2 => by simp at h2
  | [], _ :: _, _, h1, h2 => by simp at h1
  | _ :: _, [], _, h1, h2 => by simp at h1
  | _ :: _, _ :: _, [], h1, h2 => by simp at h2
theorem lexc_append : ∀ (a b c d : List Int), a.length = b.length → lexc (a ++ c) (b ++ d) = if lexc a b = 0 then lexc c d else lexc a b
  | [], [], c, d, _ => by simp [lexc]
  | x :: a, y :: b, c, d, h => by
    have ih := lexc_append a b c d (by simpa using h)
    simp only [List.cons_append, lexc]
    split
    · simp
    · split
      · simp
      · exact ih
  | [], _ :: _, _, _, h => by simp at h
  | _ :: _, [], _, _, h => by simp at h
theorem lexc_one (x y : Int) : lexc [x] [y] = Lib.compareInt x y := by simp [lexc, Lib.compareInt]
def Pf.key (p : Pf) : List Int := p.a ++ [p.n]
def Pr.key (p : Pr) : List Int := p.d.key ++ p.s.key
theorem Pf.key_len {p : Pf} (h : isA p.a) : p.key.length = 17 := by simp [Pf.key, h.1]
theorem Pf.key_inj {p q : Pf} (hp : isA p.a) (hq : isA q.a) (h : p.key = q.key) : p = q := by
  obtain ⟨a, n⟩ := p; obtain ⟨b, m⟩ := q
  have := List.append_inj h (by rw [hp.1, hq.1])
  simp_all
theorem Pr.key_inj {p q : Pr} (hp : isA p.d.a ∧ isA p.s.a) (hq : isA q.d.a ∧ isA q.s.a) (h : p.key = q.key) : p = q := by
  obtain ⟨a, n⟩ := p; obtain ⟨b, m⟩ := q
  obtain ⟨h1, h2⟩ := List.append_inj h (by rw [Pf.key_len hp.1, Pf.key_len hq.1])
  have e1 := Pf.key_inj hp.1 hq.1 h1
  have e2 := Pf.key_inj hp.2 hq.2 h2
  cases e1; cases e2; rfl
/-- cmp.Or of two. -/
def or2 (x y : Int) : Int := if x = 0 then y else x
def cmpA (a b : List Int) : Int := lexc a b
def cmpP (p q : Pf) : Int := or2 (cmpA p.a q.a) (Lib.compareInt p.n q.n)
def cmpPP (p q : Pr) : Int := or2 (cmpP p.d q.d) (cmpP p.s q.s)
theorem cmpP_key {p q : Pf} (hp : isA p.a) (hq : isA q.a) : cmpP p q = lexc p.key q.key := by
  unfold cmpP or2 cmpA Pf.key
  rw [lexc_append _ _ _ _ (by rw [hp.1, hq.1]), lexc_one]
theorem cmpPP_key {p q : Pr} (hp : isA p.d.a ∧ isA p.s.a) (hq : isA q.d.a ∧ isA q.s.a) : cmpPP p q = lexc p.key q.key := by
  unfold cmpPP or2 Pr.key
  rw [cmpP_key hp.1 hq.1, cmpP_key hp.2 hq.2, lexc_append _ _ _ _ (by rw [Pf.key_len hp.1, Pf.key_len hq.1])]
/-- The law of the order. -/
theorem order_plain {p q r : Pr} (hp : isA p.d.a ∧ isA p.s.a) (hq : isA q.d.a ∧ isA q.s.a) (hr : isA r.d.a ∧ isA r.s.a) :
    cmpPP p q = - cmpPP q p ∧ (cmpPP p q = 0 ↔ p = q) ∧ (cmpPP p q ≤ 0 → cmpPP q r ≤ 0 → cmpPP p r ≤ 0) ∧ (cmpPP p q < 0 → cmpPP q r < 0 → cmpPP p r < 0) ∧
    cmpP p.d q.d = - cmpP q.d p.d ∧ (cmpP p.d q.d = 0 ↔ p.d = q.d) ∧ (cmpP p.d q.d = 0 ∨ cmpPP p q = cmpP p.d q.d) ∧ cmpA p.d.a p.d.a = 0 := by
  have l : ∀ {p : Pr}, (isA p.d.a ∧ isA p.s.a) → p.key.length = 34 := fun {p} h => by simp [Pr.key, Pf.key_len h.1, Pf.key_len h.2]
  refine ⟨?_, ?_, ?_, ?_, ?_, ?_, ?_, (lexc_zero _ _ rfl).2 rfl⟩
  · rw [cmpPP_key hp hq, cmpPP_key hq hp]; exact lexc_neg _ _
  · rw [cmpPP_key hp hq, lexc_zero _ _ (by rw [l hp, l hq])]
    exact ⟨fun h => Pr.key_inj hp hq h, fun h => h ▸ rfl⟩
  · rw [cmpPP_key hp hq, cmpPP_key hq hr, cmpPP_key hp hr]
    exact fun h1 h2 => (lexc_trans _ _ _ (by rw [l hp, l hq]) (by rw [l hq, l hr]) h1 h2).1
  · rw [cmpPP_key hp hq, cmpPP_key hq hr, cmpPP_key hp hr]
    exact fun h1 h2 => (lexc_trans _ _ _ (by rw [l hp, l hq]) (by rw [l hq, l hr]) (by omega) (by omega)).2 h1
  · rw [cmpP_key hp.1 hq.1, cmpP_key hq.1 hp.1]; exact lexc_neg _ _
  · rw [cmpP_key hp.1 hq.1, lexc_zero _ _ (by rw [Pf.key_len hp.1, Pf.key_len hq.1])]
    exact ⟨fun h => Pf.key_inj hp.1 hq.1 h, fun h => h ▸ rfl⟩
  · unfold cmpPP or2; split
    · exact .inl (by assumption)
    · exact .inr rfl

/-! ### the best pair -/
def Pr.ok (p : Pr) : Prop := isA p.d.a ∧ isA p.s.a
def chkPP (p : Pr) : Bool := chk p.d && chk p.s && decide (pfam p.d = pfam p.s)
def mat (p : Pr) (src dst : List Int) : Bool := chkPP p && cont p.d dst && cont p.s src
/-- What Best has found among the first i. -/
structure IsBest (l : List Pr) (src dst : List Int) (i : Nat) (k : Nat) (ok : Bool) : Prop where
  no : ok = false → k = 0 ∧ ∀ j p, j < i → l[j]? = some p → mat p src dst = false
  yes : ok = true → k < i ∧ ∃ b, l[k]? = some b ∧ mat b src dst = true ∧ ∀ j p, j < i → l[j]? = some p → mat p src dst = true → p.d.n < b.d.n ∨ p.d.n = b.d.n ∧ (p.s.n < b.s.n ∨ p.s.n = b.s.n ∧ k ≤ j)
theorem IsBest.start (l : List Pr) (src dst : List Int) : IsBest l src dst 0 0 false := ⟨fun _ => ⟨rfl, fun j p h => by omega⟩, fun h => (by cases h)⟩
theorem IsBest.skip {l : List Pr} {src dst : List Int} {i k : Nat} {ok : Bool} (h : IsBest l src dst i k ok) {p : Pr} (hp : l[i]? = some p) (hm : mat p src dst = false) : IsBest l src dst (i + 1) k ok := by
  refine ⟨fun h0 => ⟨(h.no h0).1, fun j q hj hq => ?_⟩, fun h1 => ?_⟩
  · by_cases hji : j = i
    · subst hji; rw [hp] at hq; cases hq; exact hm
    · exact (h.no h0).2 j q (by omega) hq
  · obtain ⟨hk, b, hb, hmb, hall⟩ := h.yes h1
    refine ⟨by omega, b, hb, hmb, fun j q hj hq hmq => ?_⟩
    by_cases hji : j = i
    · subst hji; rw [hp] at hq; cases hq; rw [hm] at hmq; cases hmq
    · exact hall j q (by omega) hq hmq
theorem IsBest.first {l : List Pr} {src dst : List Int} {i k : Nat} (h : IsBest l src dst i k false) {p : Pr} (hp : l[i]? = some p) (hm : mat p src dst = true) : IsBest l src dst (i + 1) i true := by
  refine ⟨fun h0 => (by cases h0), fun _ => ⟨by omega, p, hp, hm, fun j q hj hq hmq => ?_⟩⟩
  by_cases hji : j = i
  · subst hji; rw [hp] at hq; cases hq; omega
  · have := (h.no rfl).2 j q (by omega) hq; rw [this] at hmq; cases hmq
theorem IsBest.stay {l : List Pr} {src dst : List Int} {i k : Nat} (h : IsBest l src dst i k true) {p b : Pr} (hp : l[i]? = some p) (hb : l[k]? = some b) (hc : or2 (Lib.compareInt p.d.n b.d.n) (Lib.compareInt p.s.n b.s.n) ≤ 0) : IsBest l src dst (i + 1) k true := by
  refine ⟨fun h0 => (by cases h0), fun _ => ?_⟩
  obtain ⟨hk, b', hb', hmb, hall⟩ := h.yes rfl
  rw [hb] at hb'; cases hb'
  refine ⟨by omega, b, hb, hmb, fun j q hj hq hmq => ?_⟩
  by_cases hji : j = i
  · subst hji; rw [hp] at hq; cases hq
    unfold or2 Lib.compareInt at hc
    repeat' split at hc
    all_goals omega
  · exact hall j q (by omega) hq hmq
theorem IsBest.turn {l : List Pr} {src dst : List Int} {i k : Nat} (h : IsBest l src dst i k true) {p b : Pr} (hp : l[i]? = some p) (hb : l[k]? = some b) (hm : mat p src dst = true) (hc : ¬ or2 (Lib.compareInt p.d.n b.d.n) (Lib.compareInt p.s.n b.s.n) ≤ 0) : IsBest l src dst (i + 1) i true := by
  refine ⟨fun h0 => (by cases h0), fun _ => ?_⟩
  obtain ⟨hk, b', hb', hmb, hall⟩ := h.yes rfl
  rw [hb] at hb'; cases hb'
  refine ⟨by omega, p, hp, hm, fun j q hj hq hmq => ?_⟩
  by_cases hji : j = i
  · subst hji; rw [hp] at hq; cases hq; omega
  · have := hall j q (by omega) hq hmq
    unfold or2 Lib.compareInt at hc
    repeat' split at hc
    all_goals omega
end Go.Proofs.YtnljjlaececnkaaGreatDoor
