/-
  Merged texts (RN, RO, RP, GJ, GM, GK, GN, GO, GR, GS, EN, GT, BD, CM, CO), part 9 of 12. Conditions: each part's own, told at its head.
-/
import Derived.Test.YtnljjlaececnkaaGreatDoorBMP1
import Derived.Test.YtnljjlaececnkaaGreatDoorBMP2
import Derived.Test.YtnljjlaececnkaaGreatDoorBMP3
import Derived.Test.YtnljjlaececnkaaGreatDoorBMP4
import Derived.Test.YtnljjlaececnkaaGreatDoorBMP5
import Derived.Test.YtnljjlaececnkaaGreatDoorBMP6
import Derived.Test.YtnljjlaececnkaaGreatDoorBMP7
import Derived.Test.YtnljjlaececnkaaGreatDoorBMP8
import Derived.LoopN
import Derived.Test.YtnljjlaececnkaaGreatDoorRows
import Derived.Lib.LaidTab
import Derived.Stop.LaidErr
import Derived.Shelf.Vars
import Derived.MakeChecks
/-
  A symbolic world: regions that draw their order, checked. No condition.
-/
namespace Go.Rn
open Go.RowKit Go.MapKept
set_option linter.unusedVariables false
set_option linter.unusedSimpArgs false
variable {P : Program} {G : Nat} {w0 : World} {r : Ren} {h : Tr SObj} {nx : Nat} {w : World} {T : Tr Value} {a : Act} {call : CallS} {N : Nat} {ops : List Oper}
/-! ### who writes a slot -/
noncomputable def writS (N : Nat) (L : List Oper) : Nat → Tr Nat → Option (Tr Nat) :=
  List.rec (motive := fun _ => Nat → Tr Nat → Option (Tr Nat)) (fun _ W => some W) (fun o _ ih i W => match o.dst with
    | none => ih (i + 1) W
    | some d => cond (Nat.blt d N) (match W.get d with
      | none => ih (i + 1) (W.set d i)
      | some _ => none) none) L
theorem writS_cons (N : Nat) (o : Oper) (L : List Oper) (i : Nat) (W : Tr Nat) : writS N (o :: L) i W = match o.dst with
    | none => writS N L (i + 1) W
    | some d => cond (Nat.blt d N) (match W.get d with
      | none => writS N L (i + 1) (W.set d i)
      | some _ => none) none := rfl
theorem writS_spec (hN : N ≤ capB) : ∀ (L : List Oper) (i : Nat) (W W' : Tr Nat), writS N L i W = some W' → ∀ t : Tmp,
    (∀ j, W.get t = some j → W'.get t = some j ∧ ∀ (k : Nat) (o : Oper), L[k]? = some o → o.dst ≠ some t) ∧
    (∀ (k : Nat) (o : Oper), L[k]? = some o → o.dst = some t → t < N ∧ W'.get t = some (i + k) ∧ ∀ (k' : Nat) (o' : Oper), L[k']? = some o' → o'.dst = some t → k' = k) ∧
    (∀ j, W'.get t = some j → W.get t = some j ∨ ∃ (k : Nat) (o : Oper), L[k]? = some o ∧ o.dst = some t ∧ j = i + k)
  | [], i, W, W', hs, t => by
    have e : W = W' := Option.some.inj hs
    subst e
    exact ⟨fun j hj => ⟨hj, by simp⟩, by simp, fun j hj => .inl hj⟩
  | o :: L, i, W, W', hs, t => by
    rw [writS_cons] at hs
    cases hd : o.dst with
    | none =>
      rw [hd] at hs
      obtain ⟨c1, c2, c3⟩ := writS_spec hN L (i + 1) W W' hs t
      refine ⟨fun j hj => ⟨(c1 j hj).1, fun k o' ho => ?_⟩, fun k o' ho hdo => ?_, fun j hj => ?_⟩
      · cases k with
        | zero => simp only [List.getElem?_cons_zero, Option.some.injEq] at ho; subst ho; rw [hd]; simp
        | succ k => rw [List.getElem?_cons_succ] at ho; exact (c1 j hj).2 k o' ho
      · cases k with
        | zero => simp only [List.getElem?_cons_zero, Option.some.injEq] at ho; subst ho; rw [hd] at hdo; cases hdo
        | succ k =>
          rw [List.getElem?_cons_succ] at ho
          obtain ⟨d0, d1, d2⟩ := c2 k o' ho hdo
          refine ⟨d0, by rw [d1]; congr 1; omega, fun k' o2 ho2 hd2 => ?_⟩
          cases k' with
          | zero => simp only [List.getElem?_cons_zero, Option.some.injEq] at ho2; subst ho2; rw [hd] at hd2; cases hd2
          | succ k' => rw [List.getElem?_cons_succ] at ho2; rw [d2 k' o2 ho2 hd2]
      · rcases c3 j hj with h1 | ⟨k, o', h1, h2, h3⟩
        · exact .inl h1
        · exact .inr ⟨k + 1, o', by rw [List.getElem?_cons_succ]; exact h1, h2, by omega⟩
    | some d =>
      rw [hd] at hs
      simp only at hs
      cases hb : Nat.blt d N with
      | false => rw [hb] at hs; cases hs
      | true =>
        rw [hb, cond_true] at hs
        cases hg : W.get d with
        | some x => rw [hg] at hs; cases hs
        | none =>
          rw [hg] at hs
          have hset : ∀ u, (W.set d i).get u = if d = u then some i else W.get u := fun u => Tr.get_set (Nat.lt_of_lt_of_le (blt_lt hb) hN)
          obtain ⟨c1, c2, c3⟩ := writS_spec hN L (i + 1) (W.set d i) W' hs t
          refine ⟨fun j hj => ?_, fun k o' ho hdo => ?_, fun j hj => ?_⟩
          · have hne : d ≠ t := fun e => by subst e; rw [hg] at hj; cases hj
            obtain ⟨d1, d2⟩ := c1 j (by rw [hset, if_neg hne]; exact hj)
            refine ⟨d1, fun k o' ho => ?_⟩
            cases k with
            | zero => simp only [List.getElem?_cons_zero, Option.some.injEq] at ho; subst ho; rw [hd]; simpa using hne
            | succ k => rw [List.getElem?_cons_succ] at ho; exact d2 k o' ho
          · cases k with
            | zero =>
              simp only [List.getElem?_cons_zero, Option.some.injEq] at ho
              subst ho
              rw [hd] at hdo
              cases hdo
              obtain ⟨d1, d2⟩ := c1 i (by rw [hset, if_pos rfl])
              refine ⟨blt_lt hb, d1, fun k' o2 ho2 hd2 => ?_⟩
              cases k' with
              | zero => rfl
              | succ k' => rw [List.getElem?_cons_succ] at ho2; exact absurd hd2 (d2 k' o2 ho2)
            | succ k =>
              rw [List.getElem?_cons_succ] at ho
              have hne : d ≠ t := fun e => by
                subst e
                exact (c1 i (by rw [hset, if_pos rfl])).2 k o' ho hdo
              obtain ⟨d0, d1, d2⟩ := c2 k o' ho hdo
              refine ⟨d0, by rw [d1]; congr 1; omega, fun k' o2 ho2 hd2 => ?_⟩
              cases k' with
              | zero => simp only [List.getElem?_cons_zero, Option.some.injEq] at ho2; subst ho2; rw [hd] at hd2; cases hd2; exact absurd rfl hne
              | succ k' => rw [List.getElem?_cons_succ] at ho2; rw [d2 k' o2 ho2 hd2]
          · rcases c3 j hj with h1 | ⟨k, o', h1, h2, h3⟩
            · rw [hset] at h1
              by_cases e : d = t
              · rw [if_pos e] at h1
                cases h1
                exact .inr ⟨0, o, rfl, by rw [hd, e], rfl⟩
              · rw [if_neg e] at h1; exact .inl h1
            · exact .inr ⟨k + 1, o', by rw [List.getElem?_cons_succ]; exact h1, h2, by omega⟩
/-! ### the checks -/
structure Ent where
  i : Nat
  o : Oper
  m : Nat
  q : Rec
noncomputable def entS (L : List Oper) : List Nat → List Rec → Nat → List Ent :=
  List.rec (motive := fun _ => List Nat → List Rec → Nat → List Ent) (fun _ _ _ => []) (fun o _ ih M Q i => match M with
    | m :: M' => match Q with
      | q :: Q' => ⟨i, o, m, q⟩ :: ih M' Q' (i + 1)
      | [] => []
    | [] => []) L
theorem entS_get : ∀ (L : List Oper) (M : List Nat) (Q : List Rec) (i j : Nat) (o : Oper) (m : Nat) (q : Rec), L[j]? = some o → M[j]? = some m → Q[j]? = some q → (entS L M Q i)[j]? = some ⟨i + j, o, m, q⟩
  | [], M, Q, i, j, o, m, q, h1, h2, h3 => by simp at h1
  | o' :: L, [], Q, i, j, o, m, q, h1, h2, h3 => by simp at h2
  | o' :: L, m' :: M, [], i, j, o, m, q, h1, h2, h3 => by simp at h3
  | o' :: L, m' :: M, q' :: Q, i, 0, o, m, q, h1, h2, h3 => by
    simp only [List.getElem?_cons_zero, Option.some.injEq] at h1 h2 h3
    subst h1 h2 h3; rfl
  | o' :: L, m' :: M, q' :: Q, i, j + 1, o, m, q, h1, h2, h3 => by
    rw [List.getElem?_cons_succ] at h1 h2 h3
    have := entS_get L M Q (i + 1) j o m q h1 h2 h3
    rw [show i + 1 + j = i + (j + 1) by omega] at this
    exact this
theorem entS_mem : ∀ (L : List Oper) (M : List Nat) (Q : List Rec) (i j : Nat) (e : Ent), (entS L M Q i)[j]? = some e → e.i = i + j ∧ L[j]? = some e.o ∧ M[j]? = some e.m ∧ Q[j]? = some e.q
  | [], M, Q, i, j, e, he => by simp [entS] at he
  | o' :: L, [], Q, i, j, e, he => by simp [entS] at he
  | o' :: L, m' :: M, [], i, j, e, he => by simp [entS] at he
  | o' :: L, m' :: M, q' :: Q, i, 0, e, he => by
    have e1 : (⟨i, o', m', q'⟩ : Ent) = e := Option.some.inj he
    subst e1; exact ⟨rfl, rfl, rfl, rfl⟩
  | o' :: L, m' :: M, q' :: Q, i, j + 1, e, he => by
    obtain ⟨a1, a2, a3, a4⟩ := entS_mem L M Q (i + 1) j e he
    exact ⟨by omega, a2, a3, a4⟩
noncomputable def chainS (E : List Ent) : List (Nat × Nat) :=
  List.rec (motive := fun _ => List (Nat × Nat)) [] (fun e _ ih => cond e.q.acts ((e.i, e.m) :: ih) ih) E
theorem chainS_cons (e : Ent) (E : List Ent) : chainS (e :: E) = cond e.q.acts ((e.i, e.m) :: chainS E) (chainS E) := rfl
theorem chainS_conv : ∀ (E : List Ent) (k : Nat) (z : Nat × Nat), (chainS E)[k]? = some z → ∃ (j : Nat) (e : Ent), E[j]? = some e ∧ e.q.acts = true ∧ z = (e.i, e.m) ∧ cnt (E.map (·.q)) j = k
  | [], k, z, hz => by simp [chainS] at hz
  | e :: E, k, z, hz => by
    rw [chainS_cons] at hz
    cases hq : e.q.acts with
    | true =>
      rw [hq, cond_true] at hz
      cases k with
      | zero =>
        simp only [List.getElem?_cons_zero, Option.some.injEq] at hz
        exact ⟨0, e, rfl, hq, hz.symm, cnt_zero _⟩
      | succ k =>
        rw [List.getElem?_cons_succ] at hz
        obtain ⟨j, e', h1, h2, h3, h4⟩ := chainS_conv E k z hz
        exact ⟨j + 1, e', by rw [List.getElem?_cons_succ]; exact h1, h2, h3, by rw [List.map_cons, cnt_cons, hq, h4]; simp; omega⟩
    | false =>
      rw [hq, cond_false] at hz
      obtain ⟨j, e', h1, h2, h3, h4⟩ := chainS_conv E k z hz
      exact ⟨j + 1, e', by rw [List.getElem?_cons_succ]; exact h1, h2, h3, by rw [List.map_cons, cnt_cons, hq, h4]; simp⟩
theorem chainS_len : ∀ (E : List Ent), (chainS E).length = ((E.map (·.q)).filter (·.acts)).length
  | [] => rfl
  | e :: E => by
    rw [chainS_cons, List.map_cons]
    cases hq : e.q.acts
    · simp [hq, chainS_len E]
    · simp [hq, chainS_len E]
noncomputable def chainOk (E : List Ent) : Nat → Bool :=
  List.rec (motive := fun _ => Nat → Bool) (fun _ => true) (fun e _ ih A => cond e.q.acts (Nat.beq (Nat.land e.m A) A && ih (Nat.lor A (2 ^ e.i))) (ih A)) E
theorem chainOk_cons (e : Ent) (E : List Ent) (A : Nat) : chainOk (e :: E) A = cond e.q.acts (Nat.beq (Nat.land e.m A) A && chainOk E (Nat.lor A (2 ^ e.i))) (chainOk E A) := rfl
theorem land_bit {m A b : Nat} (h : Nat.land m A = A) (hb : A.testBit b = true) : m.testBit b = true := by
  have h2 : (m &&& A).testBit b = true := by
    show (Nat.land m A).testBit b = true
    rw [h]; exact hb
  rw [Nat.testBit_and, Bool.and_eq_true] at h2
  exact h2.1
theorem chainOk_spec : ∀ (E : List Ent) (A : Nat), chainOk E A = true → ∀ (j : Nat) (e : Ent), E[j]? = some e → e.q.acts = true → (∀ b, A.testBit b = true → e.m.testBit b = true) ∧ ∀ (k : Nat) (e' : Ent), k < j → E[k]? = some e' → e'.q.acts = true → e.m.testBit e'.i = true
  | [], A, hs, j, e, he, ha => by simp at he
  | e0 :: E, A, hs, j, e, he, ha => by
    rw [chainOk_cons] at hs
    cases hq : e0.q.acts with
    | true =>
      rw [hq, cond_true, Bool.and_eq_true] at hs
      have hl : Nat.land e0.m A = A := Nat.eq_of_beq_eq_true hs.1
      cases j with
      | zero =>
        simp only [List.getElem?_cons_zero, Option.some.injEq] at he
        subst he
        exact ⟨fun b hb => land_bit hl hb, fun k e' hk => by omega⟩
      | succ j =>
        rw [List.getElem?_cons_succ] at he
        obtain ⟨c1, c2⟩ := chainOk_spec E _ hs.2 j e he ha
        have hor : ∀ b, A.testBit b = true ∨ b = e0.i → e.m.testBit b = true := fun b hb => c1 b (by
          show (A ||| 2 ^ e0.i).testBit b = true
          rw [Nat.testBit_or, Bool.or_eq_true]
          rcases hb with hb | rfl
          · exact .inl hb
          · exact .inr (by rw [Nat.testBit_two_pow_self]))
        refine ⟨fun b hb => hor b (.inl hb), fun k e' hk he' ha' => ?_⟩
        cases k with
        | zero =>
          simp only [List.getElem?_cons_zero, Option.some.injEq] at he'
          subst he'
          exact hor _ (.inr rfl)
        | succ k =>
          rw [List.getElem?_cons_succ] at he'
          exact c2 k e' (by omega) he' ha'
    | false =>
      rw [hq, cond_false] at hs
      cases j with
      | zero =>
        simp only [List.getElem?_cons_zero, Option.some.injEq] at he
        subst he
        rw [hq] at ha; cases ha
      | succ j =>
        rw [List.getElem?_cons_succ] at he
        obtain ⟨c1, c2⟩ := chainOk_spec E _ hs j e he ha
        refine ⟨c1, fun k e' hk he' ha' => ?_⟩
        cases k with
        | zero =>
          simp only [List.getElem?_cons_zero, Option.some.injEq] at he'
          subst he'
          rw [hq] at ha'; cases ha'
        | succ k =>
          rw [List.getElem?_cons_succ] at he'
          exact c2 k e' (by omega) he' ha'
/-- In each world in which it may be carried out. -/
noncomputable def quietGo (ok : Tr SObj → Nat → Bool) (i m : Nat) (Z : List (Nat × Nat)) : List (Tr SObj × Nat) → Bool :=
  List.rec (motive := fun _ => List (Tr SObj × Nat) → Bool) (fun S => match S with
    | s :: _ => ok s.1 s.2
    | [] => true) (fun z Z' ih S => match S with
    | s :: S' => (cond ((z :: Z').all fun y => !Nat.testBit m y.1) (ok s.1 s.2) true) && (cond (Nat.testBit z.2 i) true (ih S'))
    | [] => true) Z
theorem quietGo_cons (ok : Tr SObj → Nat → Bool) (i m : Nat) (z : Nat × Nat) (Z : List (Nat × Nat)) (s : Tr SObj × Nat) (S : List (Tr SObj × Nat)) : quietGo ok i m (z :: Z) (s :: S) = ((cond ((z :: Z).all fun y => !Nat.testBit m y.1) (ok s.1 s.2) true) && (cond (Nat.testBit z.2 i) true (quietGo ok i m Z S))) := rfl
theorem quietGo_spec (ok : Tr SObj → Nat → Bool) (i m : Nat) : ∀ (Z : List (Nat × Nat)) (S : List (Tr SObj × Nat)), quietGo ok i m Z S = true → ∀ (k : Nat) (s : Tr SObj × Nat), k ≤ Z.length → S[k]? = some s → (∀ j z, k ≤ j → Z[j]? = some z → m.testBit z.1 = false) → (∀ j z, j < k → Z[j]? = some z → z.2.testBit i = false) → ok s.1 s.2 = true
  | [], S, hs, k, s, hk, hsk, h1, h2 => by
    have : k = 0 := by simpa using hk
    subst this
    cases S with
    | nil => simp at hsk
    | cons s' S =>
      simp only [List.getElem?_cons_zero, Option.some.injEq] at hsk
      subst hsk; exact hs
  | z :: Z, [], hs, k, s, hk, hsk, h1, h2 => by simp at hsk
  | z :: Z, s' :: S, hs, k, s, hk, hsk, h1, h2 => by
    rw [quietGo_cons, Bool.and_eq_true] at hs
    cases k with
    | zero =>
      simp only [List.getElem?_cons_zero, Option.some.injEq] at hsk
      subst hsk
      have hall : ((z :: Z).all fun y => !Nat.testBit m y.1) = true := by
        rw [List.all_eq_true]
        intro y hy
        obtain ⟨j, hj⟩ := List.getElem?_of_mem hy
        rw [h1 j y (Nat.zero_le _) hj]; rfl
      rw [hall, cond_true] at hs
      exact hs.1
    | succ k =>
      rw [List.getElem?_cons_succ] at hsk
      have hz := h2 0 z (by omega) rfl
      have hs2 := hs.2
      rw [hz, cond_false] at hs2
      exact quietGo_spec ok i m Z S hs2 k s (by simpa using hk) hsk (fun j y hj hy => h1 (j + 1) y (by omega) (by rw [List.getElem?_cons_succ]; exact hy)) (fun j y hj hy => h2 (j + 1) y (by omega) (by rw [List.getElem?_cons_succ]; exact hy))
/-- The slots that an operation looks at. -/
noncomputable def looksS (ops : List Oper) (o : Oper) : List Tmp :=
  (o.op.operands.toList.filterMap fun | .tmp t => some t | _ => none) ++ (match o.guard with
    | some (j, _) => match nth ops j with
      | some oj => match oj.dst with
        | some d => [d]
        | none => []
      | none => []
    | none => [])
noncomputable def entOk (P : Program) (G : Nat) (ops : List Oper) (W : Tr Nat) (Z : List (Nat × Nat)) (S : List (Tr SObj × Nat)) (e : Ent) : Bool :=
  ((looksS ops e.o).all fun t => match W.get t with
    | some k => Nat.testBit e.m k
    | none => true) && (cond (e.q.acts || !e.q.want) true (quietGo (fun h nx => match opS P G e.q.T h nx e.o with
    | some (.val v _ _) => veq v e.q.v
    | _ => false) e.i e.m Z S))
noncomputable def lastS (S : List (Tr SObj × Nat)) : Option (Tr SObj × Nat) := List.rec (motive := fun _ => Option (Tr SObj × Nat)) none (fun s _ ih => match ih with
  | some x => some x
  | none => some s) S
theorem lastS_get : ∀ (S : List (Tr SObj × Nat)) (s : Tr SObj × Nat), lastS S = some s → S[S.length - 1]? = some s
  | [], s, hs => by cases hs
  | [x], s, hs => by cases hs; rfl
  | x :: y :: S, s, hs => by
    have hr : lastS (y :: S) = some s := by
      have e : lastS (x :: y :: S) = match lastS (y :: S) with
        | some z => some z
        | none => some x := rfl
      rw [e] at hs
      cases h1 : lastS (y :: S) with
      | some z => rw [h1] at hs; exact hs
      | none =>
        have e2 : lastS (y :: S) = match lastS S with
          | some z => some z
          | none => some y := rfl
        rw [e2] at h1
        split at h1 <;> cases h1
    have := lastS_get (y :: S) s hr
    simpa using this
/-- A region that draws its order. -/
noncomputable def drawS (P : Program) (G : Nat) (call : CallS) (N : Nat) (ops : List Oper) (T : Tr Value) (h : Tr SObj) (nx : Nat) : Option (Tr Value × Tr SObj × Nat) :=
  match ancS ops [] 0 with
  | some M => match writS N ops 0 .leaf with
    | some W => match runD P G call N ops ops T h nx with
      | some (Q, S, Te) => cond ((entS ops M Q 0).all (entOk P G ops W (chainS (entS ops M Q 0)) S) && chainOk (entS ops M Q 0) 0) (match lastS S with
        | some (h', nx') => some (Te, h', nx')
        | none => none) none
      | none => none
    | none => none
  | none => none
end Go.Rn
/-
  A symbolic world: regions that draw their order answer as the check says. Condition: no function of the program is runtime.NumGoroutine; every order may be drawn.
-/
namespace Go.Rn
open Go.RowKit Go.MapKept
set_option linter.unusedVariables false
set_option linter.unusedSimpArgs false
variable {P : Program} {G : Nat} {w0 : World} {call : CallS} {N : Nat}
theorem cnt_surj : ∀ (Q : List Rec) (i k : Nat), k < cnt Q i → ∃ c q, c < i ∧ Q[c]? = some q ∧ q.acts = true ∧ cnt Q c = k
  | [], i, k, h => by simp [cnt] at h
  | q :: Q, 0, k, h => by simp [cnt] at h
  | q :: Q, i + 1, k, h => by
    rw [cnt_cons] at h
    cases hq : q.acts with
    | true =>
      rw [hq, cond_true] at h
      cases k with
      | zero => exact ⟨0, q, by omega, rfl, hq, cnt_zero _⟩
      | succ k =>
        obtain ⟨c, p, h1, h2, h3, h4⟩ := cnt_surj Q i k (by omega)
        exact ⟨c + 1, p, by omega, by rw [List.getElem?_cons_succ]; exact h2, h3, by rw [cnt_cons, hq, h4]; simp; omega⟩
    | false =>
      rw [hq, cond_false] at h
      obtain ⟨c, p, h1, h2, h3, h4⟩ := cnt_surj Q i k (by omega)
      exact ⟨c + 1, p, by omega, by rw [List.getElem?_cons_succ]; exact h2, h3, by rw [cnt_cons, hq, h4]; simp⟩
theorem cnt_lt : ∀ (Q : List Rec) (c i : Nat) (q : Rec), c < i → Q[c]? = some q → q.acts = true → cnt Q c < cnt Q i
  | [], c, i, q, h, hq, ha => by simp at hq
  | p :: Q, 0, i + 1, q, h, hq, ha => by
    simp only [List.getElem?_cons_zero, Option.some.injEq] at hq
    subst hq
    rw [cnt_zero, cnt_cons, ha]; simp; omega
  | p :: Q, c + 1, i + 1, q, h, hq, ha => by
    rw [List.getElem?_cons_succ] at hq
    have := cnt_lt Q c i q (by omega) hq ha
    rw [cnt_cons, cnt_cons]; omega
  | p :: Q, c, 0, q, h, hq, ha => by omega
theorem cnt_inj {Q : List Rec} {c i : Nat} {q p : Rec} (hc : Q[c]? = some q) (hi : Q[i]? = some p) (ha : q.acts = true) (hb : p.acts = true) (he : cnt Q c = cnt Q i) : c = i := by
  rcases Nat.lt_trichotomy c i with h | h | h
  · have := cnt_lt Q c i q h hc ha; omega
  · exact h
  · have := cnt_lt Q i c p h hi hb; omega
theorem wantS_on {L : Array Oper} {T : Tr Value} {a : Act} {r : Ren} {o : Oper} {b : Bool} (H : ∀ d, d ∈ looksS L.toList o → ∀ v, T.get d = some v → a.tmps.getD d undef = ren r v) (hs : wantS L.toList T o = some b) : Region.wanted o (yielded L a.tmps) = b := by
  unfold wantS at hs
  unfold Region.wanted
  split at hs
  · rename_i hg
    cases hs
    rw [hg]
  · rename_i j want hg
    split at hs
    case h_2 => cases hs
    rename_i oj hoj
    split at hs
    case h_2 => cases hs
    rename_i d hd
    split at hs
    case h_2 => cases hs
    rename_i c hc
    cases hs
    have hmem : d ∈ looksS L.toList o := by
      unfold looksS
      refine List.mem_append_right _ ?_
      simp [hg, hoj, hd]
    have hv := H d hmem _ hc
    rw [nth_eq, Array.getElem?_toList] at hoj
    simp only [ren] at hv
    have ht : a.tmps[d]? = some (.bool c) := by
      rw [Array.getD_eq_getD_getElem?] at hv
      cases hx : a.tmps[d]? with
      | none => rw [hx] at hv; simp [undef, noResult] at hv
      | some x => rw [hx] at hv; rw [← hv]; rfl
    have hy : yielded L a.tmps j = some c := by
      unfold yielded
      simp only [hoj, Option.bind_some, hd, ht]
    simp only [hg, hy]
    cases c <;> cases want <;> rfl
/-- All that must come ahead has come. -/
def Clo (L : List Oper) (D : Nat → Prop) : Prop := ∀ (j : Nat) (o : Oper), D j → L[j]? = some o → ∀ e ∈ o.after.toList, Region.binds .any e = true → D e.on
theorem anc_spec {L : List Oper} {M : List Nat} (hM : ancS L [] 0 = some M) : M.length = L.length ∧ ∀ (j : Nat) (o : Oper) (m : Nat), L[j]? = some o → M[j]? = some m → (∀ e ∈ o.after.toList, Region.binds .any e = true → e.on < j) ∧ (∀ b, m.testBit b = true → b < j) ∧ ∀ D, Clo L D → (∀ e ∈ o.after.toList, Region.binds .any e = true → D e.on) → ∀ b, m.testBit b = true → D b := by
  obtain ⟨l1, -, l3⟩ := ancS_spec L [] M hM
  have hlen : M.length = L.length := by rw [l1]; simp
  refine ⟨hlen, fun j => ?_⟩
  induction j using Nat.strongRecOn with
  | _ j ih =>
    intro o m ho hm
    obtain ⟨m', h1, h2, h3⟩ := l3 j o ho
    simp only [List.length_nil, Nat.zero_add] at h1 h2
    rw [hm] at h1
    cases h1
    have hj : j < L.length := (List.getElem?_eq_some_iff.1 ho).1
    refine ⟨h2, fun b hb => ?_, fun D hc hp b hb => ?_⟩
    · obtain ⟨e, he, hbe, hcase⟩ := h3 b hb
      have hlt := h2 e he hbe
      rcases hcase with rfl | ⟨k, hk, hkb⟩
      · exact hlt
      · have := (ih e.on hlt L[e.on] k (List.getElem?_eq_getElem (by omega)) hk).2.1 b hkb; omega
    · obtain ⟨e, he, hbe, hcase⟩ := h3 b hb
      have hlt := h2 e he hbe
      rcases hcase with rfl | ⟨k, hk, hkb⟩
      · exact hp e he hbe
      · have hoe : L[e.on]? = some L[e.on] := List.getElem?_eq_getElem (by omega)
        exact (ih e.on hlt L[e.on] k hoe hk).2.2 D hc (fun e' he' hbe' => hc e.on _ (hp e he hbe) hoe e' he' hbe') b hkb
/-- How far a region has come. -/
structure Inv (G : Nat) (w0 : World) (N : Nat) (ops : Array Oper) (T : Tr Value) (nx0 : Nat) (r0 : Ren) (W : Tr Nat) (Q : List Rec) (S : List (Tr SObj × Nat)) (listed : Array Bool) (k : Nat) (hk : Tr SObj) (nk : Nat) (r : Ren) (a : Act) (w : World) : Prop where
  lsz : listed.size = ops.size
  clo : Clo ops.toList (fun j => listed[j]? = some true)
  chn : ∀ (c : Nat) (q : Rec), Q[c]? = some q → q.acts = true → (listed[c]? = some true ↔ cnt Q c < k)
  st : S[k]? = some (hk, nk)
  den : Den G w0 r hk nk w
  nle : nx0 ≤ nk
  agr : Agree nx0 r0 r
  sz : a.tmps.size = N
  df : a.defers = []
  un : ∀ t : Tmp, W.get t = none → a.tmps.getD t undef = ren r (slot T t)
  wr : ∀ (t : Tmp) (i : Nat) (q : Rec), W.get t = some i → listed[i]? = some true → Q[i]? = some q → a.tmps.getD t undef = ren r q.v ∧ Lt nk q.v
theorem slot_getD (T : Tr Value) (t : Tmp) : (T.get t).getD undef = slot T t := by
  unfold slot
  cases T.get t <;> rfl
theorem slot_lt {r : Ren} {nx : Nat} {T : Tr Value} {a : Act} (F : Fits G r nx T a) (t : Tmp) : Lt nx (slot T t) := by
  unfold slot
  cases h : T.get t with
  | none => exact undef_lt _
  | some v => exact F.lt t v h
theorem evS_slot {T : Tr Value} {x : Operand} {v : Value} {r : Ren} {n : Nat} {h : Tr SObj} {w : World} {a : Act} (D : Den G w0 r h n w) (hs : evS G T x = some v) (H : ∀ t, x = .tmp t → a.tmps.getD t undef = ren r (slot T t) ∧ Lt n (slot T t)) : a.eval x = ren r v ∧ Lt n v := by
  cases x with
  | tmp t =>
    have e : slot T t = v := by
      have hs2 : (match T.get t with | some v => some v | none => some undef) = some v := hs
      unfold slot
      cases hT : T.get t with
      | none => rw [hT] at hs2; cases hs2; rfl
      | some u => rw [hT] at hs2; cases hs2; rfl
    rw [← e]
    exact H t rfl
  | const u =>
    replace hs : cond (bare u) (some u) none = some v := hs
    cases hb : bare u with
    | false => rw [hb] at hs; cases hs
    | true =>
      rw [hb] at hs
      cases hs
      exact ⟨(bare_ren hb).symm, bare_lt hb⟩
  | global g =>
    replace hs : cond (Nat.blt g G) (some (.pointer (some ⟨g, 0, none⟩))) none = some v := hs
    cases hb : Nat.blt g G with
    | false => rw [hb] at hs; cases hs
    | true =>
      rw [hb] at hs
      cases hs
      have := blt_lt hb
      exact ⟨by simp [Act.eval, ren, Ren.addr, D.glo g this], by simp only [Lt]; exact Nat.lt_of_lt_of_le this D.gle⟩
  | func f =>
    replace hs : some (.func (.func f) #[] #[]) = some v := hs
    cases hs
    exact ⟨by simp [Act.eval, ren, renA, renL], by simp [Lt, LtA, LtL]⟩
theorem getD_put_ne {a : Act} {d : Option Tmp} {v : Value} {t : Tmp} (h : d ≠ some t) : (a.put d v).tmps.getD t undef = a.tmps.getD t undef := by
  cases d with
  | none => rfl
  | some d =>
    show (a.tmps.setIfInBounds d v).getD t undef = _
    rw [Array.getD_eq_getD_getElem?, Array.getD_eq_getD_getElem?, Array.getElem?_setIfInBounds_ne (by intro e; subst e; exact h rfl)]
theorem getD_put_same {a : Act} {v : Value} {t : Tmp} (h : t < a.tmps.size) : (a.put (some t) v).tmps.getD t undef = v := by
  show (a.tmps.setIfInBounds t v).getD t undef = _
  rw [Array.getD_eq_getD_getElem?, Array.getElem?_setIfInBounds_self, if_pos h]; rfl
theorem put_size (a : Act) (d : Option Tmp) (v : Value) : (a.put d v).tmps.size = a.tmps.size := by cases d <;> simp [Act.put]
theorem put_defers (a : Act) (d : Option Tmp) (v : Value) : (a.put d v).defers = a.defers := by cases d <;> rfl
theorem drawS_sound (hng : NoNG P) (hcall : CallOk P G w0 call) (hmix : P.follows .mixedOrders = true) (hN : N ≤ capB) {ops : Array Oper} {T : Tr Value} {h : Tr SObj} {nx : Nat} {r : Ren} {a : Act} {w : World} {T' : Tr Value} {h' : Tr SObj} {nx' : Nat} {id : Nat} {K : Exit → Act → World → Prop}
    (hs : drawS P G call N ops.toList T h nx = some (T', h', nx')) (D0 : Den G w0 r h nx w) (F0 : Frm G N r nx T a) (hK : ∀ r' a' w', Agree nx r r' → nx ≤ nx' → Den G w0 r' h' nx' w' → Frm G N r' nx' T' a' → K .normal a' w') : (Code.region id ops true).wp P K a w := by
  unfold drawS at hs
  split at hs
  case h_2 => cases hs
  rename_i M hM
  split at hs
  case h_2 => cases hs
  rename_i W hW
  split at hs
  case h_2 => cases hs
  rename_i Q S Te hrun
  cases hc : ((entS ops.toList M Q 0).all (entOk P G ops.toList W (chainS (entS ops.toList M Q 0)) S) && chainOk (entS ops.toList M Q 0) 0) with
  | false => rw [hc] at hs; cases hs
  | true =>
    rw [hc, cond_true] at hs
    split at hs
    case h_2 => cases hs
    rename_i hl nl hlast
    cases hs
    rw [Bool.and_eq_true] at hc
    obtain ⟨hall, hch⟩ := hc
    obtain ⟨hMlen, hanc⟩ := anc_spec hM
    obtain ⟨hS0, hQlen, hSlen⟩ := runD_head hrun
    have hat := runD_at hN hrun
    have hslot := runD_slot hN hrun
    have hwr := writS_spec hN ops.toList 0 .leaf W hW
    have hget : ∀ i, i < ops.size → ∃ m q, M[i]? = some m ∧ Q[i]? = some q := fun i hi => by
      refine ⟨M[i]'(by rw [hMlen, Array.length_toList]; exact hi), Q[i]'(by rw [hQlen, Array.length_toList]; exact hi), List.getElem?_eq_getElem _, List.getElem?_eq_getElem _⟩
    have hent : ∀ (i : Nat) (o : Oper) (m : Nat) (q : Rec), ops.toList[i]? = some o → M[i]? = some m → Q[i]? = some q → (entS ops.toList M Q 0)[i]? = some ⟨i, o, m, q⟩ := fun i o m q h1 h2 h3 => by
      have := entS_get ops.toList M Q 0 i o m q h1 h2 h3
      rwa [Nat.zero_add] at this
    have hmapQ : (entS ops.toList M Q 0).map (·.q) = Q := by
      apply List.ext_getElem?
      intro i
      rw [List.getElem?_map]
      by_cases hi : i < ops.size
      · obtain ⟨m, q, h1, h2⟩ := hget i hi
        rw [hent i ops.toList[i] m q (List.getElem?_eq_getElem (by rw [Array.length_toList]; exact hi)) h1 h2, h2]; rfl
      · have e1 : Q[i]? = none := List.getElem?_eq_none (by rw [hQlen, Array.length_toList]; omega)
        rw [e1]
        cases he : (entS ops.toList M Q 0)[i]? with
        | none => rfl
        | some e =>
          have := (entS_mem ops.toList M Q 0 i e he).2.2.2
          rw [e1] at this; cases this
    have hZlen : (chainS (entS ops.toList M Q 0)).length + 1 = S.length := by rw [chainS_len, hmapQ, hSlen]
    -- the writers
    have hwriter : ∀ (t : Tmp) (i : Nat), W.get t = some i → ∃ o, ops.toList[i]? = some o ∧ o.dst = some t ∧ t < N ∧ ∀ (k : Nat) (o' : Oper), ops.toList[k]? = some o' → o'.dst = some t → k = i := fun t i hi => by
      rcases (hwr t).2.2 i hi with h1 | ⟨k, o, h1, h2, h3⟩
      · rw [Tr.get_leaf] at h1; cases h1
      · obtain ⟨d0, d1, d2⟩ := (hwr t).2.1 k o h1 h2
        have : i = k := by omega
        subst this
        exact ⟨o, h1, h2, d0, d2⟩
    have hnowriter : ∀ t : Tmp, W.get t = none → ∀ (k : Nat) (o : Oper), ops.toList[k]? = some o → o.dst ≠ some t := fun t ht k o ho hd => by
      have := ((hwr t).2.1 k o ho hd).2.1
      rw [ht] at this; cases this
    have hTlt := fun t => slot_lt F0.fit t
    -- one step
    have step : ∀ (listed : Array Bool) (k : Nat) (hk : Tr SObj) (nk : Nat) (rr : Ren) (aa : Act) (ww : World) (i : Nat) (Kk : Act → World → Prop), Inv G w0 N ops T nx r W Q S listed k hk nk rr aa ww → i ∈ Region.ready .any ops listed →
        (∀ k' hk' nk' r' a' w', Inv G w0 N ops T nx r W Q S (listed.setIfInBounds i true) k' hk' nk' r' a' w' → Kk a' w') → wpOp P ops K i Kk aa ww := by
      intro listed k hk nk rr aa ww i Kk I hi hKk
      obtain ⟨hun, o, ho, hpre⟩ := mem_ready.1 hi
      have hoL : ops.toList[i]? = some o := by rw [Array.getElem?_toList]; exact ho
      have hilt : i < ops.size := (Array.getElem?_eq_some_iff.1 ho).1
      have hnD : listed[i]? ≠ some true := fun e => by
        rw [Array.getD_eq_getD_getElem?, e] at hun; cases hun
      have hpreD : ∀ e ∈ o.after.toList, Region.binds .any e = true → listed[e.on]? = some true := fun e he hb => by
        have := hpre e (Array.mem_toList_iff.1 he) hb
        rw [Array.getD_eq_getD_getElem?] at this
        cases hx : listed[e.on]? with
        | none => rw [hx] at this; cases this
        | some b => rw [hx] at this; simp at this; rw [this]
      obtain ⟨m, q, hm, hq⟩ := hget i hilt
      obtain ⟨p1, p2, p3⟩ := hanc i o m hoL hm
      have hmD : ∀ b, m.testBit b = true → listed[b]? = some true := fun b hb => p3 (fun j => listed[j]? = some true) I.clo hpreD b hb
      have hE := hent i o m q hoL hm hq
      have hok := List.all_eq_true.1 hall _ (List.mem_of_getElem? hE)
      unfold entOk at hok
      simp only [Bool.and_eq_true] at hok
      obtain ⟨hread, hquiet⟩ := hok
      have hreads : ∀ t, t ∈ looksS ops.toList o → ∀ j, W.get t = some j → m.testBit j = true := fun t ht j hj => by
        have := List.all_eq_true.1 hread t ht
        rw [hj] at this
        exact this
      have hframe : ∀ t, t ∈ looksS ops.toList o → aa.tmps.getD t undef = ren rr (slot q.T t) ∧ Lt nk (slot q.T t) := fun t ht => by
        obtain ⟨s1, s2⟩ := (hslot t).1 i q hq
        cases hwt : W.get t with
        | none =>
          rw [s1 fun j o' _ ho' => hnowriter t hwt j o' ho']
          exact ⟨I.un t hwt, (hTlt t).mono I.nle⟩
        | some j =>
          have hb := hreads t ht j hwt
          obtain ⟨oj, e1, e2, e3, e4⟩ := hwriter t j hwt
          obtain ⟨mj, qj, -, hqj⟩ := hget j (by have := (List.getElem?_eq_some_iff.1 e1).1; rwa [Array.length_toList] at this)
          rw [s2 j oj qj (p2 j hb) e1 hqj e2 fun k' o' hk' ho' hd => by have := e4 k' o' ho' hd; omega]
          exact I.wr t j qj hwt (hmD j hb) hqj
      have hops : ∀ x, x ∈ o.op.operands → ∀ v, evS G q.T x = some v → aa.eval x = ren rr v ∧ Lt nk v := fun x hx v hv => evS_slot I.den hv fun t ht => hframe t (by
        subst ht
        unfold looksS
        exact List.mem_append_left _ (List.mem_filterMap.2 ⟨.tmp t, by simpa using hx, rfl⟩))
      obtain ⟨hi1, ni1, hi2, ni2, t1, t2, t3⟩ := hat i o q hoL hq
      obtain ⟨-, g2, g3, g4, g5, g6⟩ := recS_acts t2
      have hwant := wantS_on (a := aa) (r := rr) (fun d hd v hv => by
        have := (hframe d hd).1
        rw [this]; unfold slot; rw [hv]) g5
      -- the chain
      have hpos : q.acts = true → cnt Q i = k := fun ha => by
        have h1 : ¬ cnt Q i < k := fun hlt => hnD ((I.chn i q hq ha).2 hlt)
        rcases Nat.lt_or_ge k (cnt Q i) with hlt | hge
        · obtain ⟨c, qc, c1, c2, c3, c4⟩ := cnt_surj Q i k hlt
          obtain ⟨mc, qc', hmc, hqc'⟩ := hget c (by omega)
          rw [c2] at hqc'; cases hqc'
          obtain ⟨oc, hoc⟩ : ∃ oc, ops.toList[c]? = some oc := ⟨ops.toList[c]'(by rw [Array.length_toList]; omega), List.getElem?_eq_getElem _⟩
          have hEc := hent c oc mc qc hoc hmc c2
          have hbit := (chainOk_spec _ 0 hch i _ hE ha).2 c _ c1 hEc c3
          have := (I.chn c qc c2 c3).1 (hmD c hbit)
          omega
        · omega
      have hlD : ∀ j, (listed.setIfInBounds i true)[j]? = some true ↔ (j = i ∨ listed[j]? = some true) := fun j => by
        by_cases e : i = j
        · subst e
          rw [Array.getElem?_setIfInBounds_self, if_pos (by rw [I.lsz]; exact hilt)]; simp
        · rw [Array.getElem?_setIfInBounds_ne e]
          constructor
          · exact .inr
          · rintro (e2 | h2)
            · exact absurd e2.symm e
            · exact h2
      -- what holds behind
      have next : ∀ (k' : Nat) (hk' : Tr SObj) (nk' : Nat) (r' : Ren) (w' : World), S[k']? = some (hk', nk') → Den G w0 r' hk' nk' w' → nk ≤ nk' → Agree nk rr r' → Lt nk' q.v → (k' = if q.acts then k + 1 else k) → Kk (aa.put o.dst (ren r' q.v)) w' := fun k' hk' nk' r' w' hst hd hle hag hlv hkk => by
        refine hKk k' hk' nk' r' _ w' ⟨by rw [Array.size_setIfInBounds]; exact I.lsz, fun j oj hj hoj e he hb => ?_, fun c qc hqc hac => ?_, hst, hd, Nat.le_trans I.nle hle, I.agr.trans I.nle hag, by rw [put_size]; exact I.sz, by rw [put_defers]; exact I.df, fun t ht => ?_, fun t j qj hwt hDj hqj => ?_⟩
        · show (listed.setIfInBounds i true)[e.on]? = some true
          rw [hlD]
          rcases (hlD j).1 hj with rfl | hj
          · rw [hoL] at hoj; cases hoj
            exact .inr (hpreD e he hb)
          · exact .inr (I.clo j oj hj hoj e he hb)
        · rw [hlD]
          by_cases e : c = i
          · subst e
            rw [hq] at hqc; cases hqc
            rw [hkk, if_pos hac, hpos hac]
            simp
          · rw [I.chn c qc hqc hac]
            constructor
            · rintro (e2 | h2)
              · exact absurd e2 e
              · rw [hkk]; split <;> omega
            · intro h2
              refine .inr ?_
              rw [hkk] at h2
              split at h2
              · rename_i ha
                have hne : cnt Q c ≠ k := fun e2 => e (cnt_inj hqc hq hac ha (by rw [e2, hpos ha]))
                omega
              · exact h2
        · rw [getD_put_ne (hnowriter t ht i o hoL), I.un t ht]
          exact Lt.same hag ((hTlt t).mono I.nle)
        · obtain ⟨oj, e1, e2, e3, e4⟩ := hwriter t j hwt
          by_cases e : j = i
          · subst e
            rw [hoL] at e1; cases e1
            rw [hq] at hqj; cases hqj
            rw [e2, getD_put_same (by rw [I.sz]; exact e3)]
            exact ⟨rfl, hlv⟩
          · have hDj2 : listed[j]? = some true := by
              rcases (hlD j).1 hDj with e2 | h2
              · exact absurd e2 e
              · exact h2
            rw [getD_put_ne (fun hd2 => e (e4 i o hoL hd2).symm)]
            obtain ⟨x1, x2⟩ := I.wr t j qj hwt hDj2 hqj
            exact ⟨by rw [x1]; exact Lt.same hag x2, x2.mono hle⟩
      -- the states
      have hsk : q.acts = true → hi1 = hk ∧ ni1 = nk := fun ha => by
        rw [hpos ha, I.st] at t1
        cases t1; exact ⟨rfl, rfl⟩
      have hsk1 : q.acts = true → S[k + 1]? = some (hi2, ni2) := fun ha => by
        have e : cnt Q (i + 1) = k + 1 := by
          have h1 := cnt_lt Q i (i + 1) q (by omega) hq ha
          have h2 : cnt Q (i + 1) ≤ cnt Q i + 1 := by
            rcases Nat.lt_or_ge (cnt Q i + 1) (cnt Q (i + 1)) with hlt | hge
            · obtain ⟨c, qc, c1, c2, c3, c4⟩ := cnt_surj Q (i + 1) (cnt Q i + 1) hlt
              rcases Nat.lt_or_ge c i with hc1 | hc1
              · have := cnt_lt Q c i qc hc1 c2 c3; omega
              · have : c = i := by omega
                subst this; omega
            · exact hge
          have := hpos ha; omega
        rw [e] at t3; exact t3
      unfold wpOp
      simp only [ho]
      rw [hwant]
      cases hqw : q.want with
      | false =>
        rw [if_neg (by decide)]
        obtain ⟨y1, y2, y3⟩ := g4 hqw
        have hu : ren rr q.v = undef := by rw [y3, undef_ren]
        rw [← hu]
        cases ha : q.acts with
        | true =>
          obtain ⟨z1, z2⟩ := hsk ha
          have hst := hsk1 ha
          rw [y1, y2, z1, z2] at hst
          exact next (k + 1) hk nk rr ww hst I.den (Nat.le_refl _) (Agree.refl _ _) (by rw [y3]; exact undef_lt _) (by rw [ha]; rfl)
        | false => exact next k hk nk rr ww I.st I.den (Nat.le_refl _) (Agree.refl _ _) (by rw [y3]; exact undef_lt _) (by rw [ha]; rfl)
      | true =>
        rw [if_pos rfl]
        refine .inl ?_
        cases ha : q.acts with
        | true =>
          obtain ⟨z1, z2⟩ := hsk ha
          have hv := g6 hqw
          rw [z1, z2] at hv
          exact valS_sound hng hcall I.den hops hv fun r' w' e1 e2 e3 e4 => next (k + 1) hi2 ni2 r' w' (hsk1 ha) e4 e2 e1 e3 (by rw [ha]; rfl)
        | false =>
          rw [ha, hqw] at hquiet
          simp only [Bool.not_true, Bool.or_self, cond_false] at hquiet
          have hklt : k < S.length := (List.getElem?_eq_some_iff.1 I.st).1
          have hgo := quietGo_spec _ i m _ S hquiet k (hk, nk) (by omega) I.st (fun j z hj hz => by
              obtain ⟨jj, e, x1, x2, x3, x4⟩ := chainS_conv _ j z hz
              obtain ⟨y1, y2, y3, y4⟩ := entS_mem ops.toList M Q 0 jj e x1
              rw [hmapQ] at x4
              cases hb : m.testBit z.1 with
              | false => rfl
              | true =>
                rw [x3] at hb
                have hD := hmD _ hb
                rw [show (e.i, e.m).1 = jj by rw [← Nat.zero_add jj]; exact y1] at hD
                have := (I.chn jj e.q y4 x2).1 hD
                omega) (fun j z hj hz => by
              obtain ⟨jj, e, x1, x2, x3, x4⟩ := chainS_conv _ j z hz
              obtain ⟨y1, y2, y3, y4⟩ := entS_mem ops.toList M Q 0 jj e x1
              rw [hmapQ] at x4
              cases hb : z.2.testBit i with
              | false => rfl
              | true =>
                rw [x3] at hb
                have hD : listed[jj]? = some true := (I.chn jj e.q y4 x2).2 (by omega)
                exact absurd ((hanc jj e.o e.m y2 y3).2.2 (fun j => listed[j]? = some true) I.clo (fun e' he' hb' => I.clo jj e.o hD y2 e' he' hb') i hb) hnD)
          simp only at hgo
          split at hgo
          case h_2 => cases hgo
          rename_i v h1 n1 hop
          have hvq := veq_eq hgo
          obtain ⟨v', e'⟩ := opS_quiet (by rw [← g2]; exact ha) hop
          cases e'
          have hval : valS P G call q.T hk nk o = some (q.v, hk, nk) := by unfold valS; rw [hop, hvq]
          exact valS_sound hng hcall I.den hops hval fun r' w' e1 e2 e3 e4 => next k hk nk r' w' I.st e4 e2 e1 e3 (by rw [ha]; rfl)
    -- the end
    have fin : ∀ (listed : Array Bool) (k : Nat) (hk : Tr SObj) (nk : Nat) (rr : Ren) (aa : Act) (ww : World), Inv G w0 N ops T nx r W Q S listed k hk nk rr aa ww → (∀ i, i < ops.size → listed[i]? = some true) → K .normal aa ww := by
      intro listed k hk nk rr aa ww I hD
      have hklt : k < S.length := (List.getElem?_eq_some_iff.1 I.st).1
      have hk2 : k = S.length - 1 := by
        rcases Nat.lt_or_ge k (S.length - 1) with hlt | hge
        · have hcq : cnt Q Q.length = (Q.filter (·.acts)).length := by unfold cnt; rw [List.take_length]
          obtain ⟨c, qc, c1, c2, c3, c4⟩ := cnt_surj Q Q.length k (by rw [hcq]; omega)
          have := (I.chn c qc c2 c3).1 (hD c (by rw [hQlen, Array.length_toList] at c1; exact c1))
          omega
        · omega
      have hst := lastS_get S _ hlast
      rw [← hk2, I.st] at hst
      cases hst
      have hval : ∀ t : Tmp, aa.tmps.getD t undef = ren rr (slot T' t) ∧ Lt nx' (slot T' t) := fun t => by
        obtain ⟨-, s2, s3⟩ := hslot t
        cases hwt : W.get t with
        | none =>
          rw [s2 fun o ho => by
            obtain ⟨j, hj⟩ := List.getElem?_of_mem ho
            exact hnowriter t hwt j o hj]
          exact ⟨I.un t hwt, (hTlt t).mono I.nle⟩
        | some j =>
          obtain ⟨oj, e1, e2, e3, e4⟩ := hwriter t j hwt
          have hjlt : j < ops.size := by have := (List.getElem?_eq_some_iff.1 e1).1; rwa [Array.length_toList] at this
          obtain ⟨mj, qj, -, hqj⟩ := hget j hjlt
          rw [s3 j oj qj e1 hqj e2 fun k' o' hk' ho' hd => by have := e4 k' o' ho' hd; omega]
          exact I.wr t j qj hwt (hD j hjlt) hqj
      exact hK rr aa ww I.agr I.nle I.den ⟨⟨fun t => by rw [slot_getD]; exact (hval t).1, fun t v hv => by
        have := (hval t).2
        unfold slot at this
        rw [hv] at this; exact this⟩, I.sz, I.df⟩
    have all_of : ∀ listed : Array Bool, listed.size = ops.size → Region.ready .any ops listed = [] → ∀ i, i < ops.size → listed[i]? = some true := by
      intro listed hlsz hr i
      induction i using Nat.strongRecOn with
      | _ i ih =>
        intro hi
        cases hx : listed[i]? with
        | none => exact absurd (Array.getElem?_eq_none_iff.1 hx) (by omega)
        | some b =>
          cases b with
          | true => rfl
          | false =>
            obtain ⟨m, q, hm, hq⟩ := hget i hi
            have ho : ops[i]? = some ops[i] := Array.getElem?_eq_getElem hi
            have hoL : ops.toList[i]? = some ops[i] := by rw [Array.getElem?_toList]; exact ho
            have hmem : i ∈ Region.ready .any ops listed := mem_ready.2 ⟨by rw [Array.getD_eq_getD_getElem?, hx]; rfl, ops[i], ho, fun e he hb => by
              have hlt := (hanc i ops[i] m hoL hm).1 e (Array.mem_toList_iff.2 he) hb
              rw [Array.getD_eq_getD_getElem?, ih e.on hlt (by omega)]; rfl⟩
            rw [hr] at hmem
            cases hmem
    have main : ∀ (fuel : Nat) (listed : Array Bool) (k : Nat) (hk : Tr SObj) (nk : Nat) (rr : Ren) (aa : Act) (ww : World), Inv G w0 N ops T nx r W Q S listed k hk nk rr aa ww → (listed.toList.filter (fun b => !b)).length ≤ fuel → wpAny P .any ops K fuel listed aa ww := by
      intro fuel
      induction fuel with
      | zero =>
        intro listed k hk nk rr aa ww I hf
        have hD : ∀ i, i < ops.size → listed[i]? = some true := fun i hi => by
          cases hx : listed[i]? with
          | none => exact absurd (Array.getElem?_eq_none_iff.1 hx) (by rw [I.lsz]; omega)
          | some b =>
            cases b with
            | true => rfl
            | false =>
              have hnil : listed.toList.filter (fun b => !b) = [] := List.eq_nil_of_length_eq_zero (by omega)
              have : false ∈ listed.toList.filter (fun b => !b) := List.mem_filter.2 ⟨List.mem_of_getElem? (i := i) (by rw [Array.getElem?_toList]; exact hx), rfl⟩
              rw [hnil] at this; cases this
        refine ⟨?_, fin listed k hk nk rr aa ww I hD⟩
        rw [List.eq_nil_iff_forall_not_mem]
        intro i hi
        obtain ⟨h1, o, h2, h3⟩ := mem_ready.1 hi
        have hilt : i < ops.size := (Array.getElem?_eq_some_iff.1 h2).1
        rw [Array.getD_eq_getD_getElem?, hD i hilt] at h1; cases h1
      | succ fuel ih =>
        intro listed k hk nk rr aa ww I hf
        refine ⟨fun hr => fin listed k hk nk rr aa ww I (all_of listed I.lsz hr), fun i hi => step listed k hk nk rr aa ww i _ I hi fun k' hk' nk' r' a' w' I' => ih _ k' hk' nk' r' a' w' I' ?_⟩
        obtain ⟨h1, o, h2, h3⟩ := mem_ready.1 hi
        have hilt : i < listed.size := by rw [I.lsz]; exact (Array.getElem?_eq_some_iff.1 h2).1
        have hfalse : listed.toList[i]? = some false := by
          rw [Array.getElem?_toList]
          cases hx : listed[i]? with
          | none => exact absurd (Array.getElem?_eq_none_iff.1 hx) (by omega)
          | some b => rw [Array.getD_eq_getD_getElem?, hx] at h1; simp at h1; rw [h1]
        have hdec : ∀ (l : List Bool) (j : Nat), l[j]? = some false → ((l.set j true).filter (fun b => !b)).length + 1 = (l.filter (fun b => !b)).length := by
          intro l
          induction l with
          | nil => intro j hj; simp at hj
          | cons b l ihl =>
            intro j hj
            cases j with
            | zero => simp at hj; subst hj; simp
            | succ j =>
              rw [List.getElem?_cons_succ] at hj
              have := ihl j hj
              rw [List.set_cons_succ]
              cases b with
              | true => simp only [List.filter_cons, Bool.not_true, Bool.false_eq_true, if_false]; exact this
              | false => simp only [List.filter_cons, Bool.not_false, if_true, List.length_cons]; omega
        have := hdec listed.toList i hfalse
        rw [Array.toList_setIfInBounds]
        omega
    refine wp_region_any hmix (main ops.size _ 0 h nx r a _ ⟨by simp, fun j o hj => ?_, fun c q hq hac => ?_, hS0, D0.drew, Nat.le_refl _, Agree.refl _ _, F0.size, F0.defers, fun t _ => by rw [F0.fit.val t, slot_getD], fun t i q _ hD => ?_⟩ ?_)
    · replace hj : (Array.replicate ops.size false)[j]? = some true := hj
      rw [Array.getElem?_replicate] at hj
      split at hj <;> cases hj
    · rw [Array.getElem?_replicate]
      constructor
      · intro hx; split at hx <;> cases hx
      · intro hx; omega
    · rw [Array.getElem?_replicate] at hD
      split at hD <;> cases hD
    · rw [Array.toList_replicate]
      exact Nat.le_trans (List.length_filter_le _ _) (by simp)
end Go.Rn
/-
  A symbolic world: code, functions, calls. Condition: no function of the program is runtime.NumGoroutine; every order may be drawn.
-/
namespace Go.Rn
open Go.RowKit Go.MapKept
set_option linter.unusedVariables false
set_option linter.unusedSimpArgs false
variable {P : Program} {G : Nat} {w0 : World} {call : CallS} {N : Nat}
/-- How code ends. -/
inductive XS where
  | normal
  | exit (id : Nat)
  | ret
def XS.toExit : XS → Exit
  | .normal => .normal
  | .exit id => .exit id
  | .ret => .ret
abbrev CodeR := Option (XS × Tr Value × Tr SObj × Nat)
noncomputable def codeS (P : Program) (G : Nat) (call : CallS) (N : Nat) (fuel : Nat) : Code → Tr Value → Tr SObj → Nat → CodeR :=
  Nat.rec (motive := fun _ => Code → Tr Value → Tr SObj → Nat → CodeR) (fun _ _ _ _ => none)
    (fun _ ih c T h nx => match c with
      | .skip => some (.normal, T, h, nx)
      | .label _ => some (.normal, T, h, nx)
      | .region _ ops draw => match (cond draw (drawS P G call N ops.toList T h nx) (runL P G call N ops.toList ops.toList T h nx)) with
        | some (T', h', nx') => some (.normal, T', h', nx')
        | none => none
      | .seq x y => match ih x T h nx with
        | some (e, T', h', nx') => match e with
          | .normal => ih y T' h' nx'
          | .exit id => some (.exit id, T', h', nx')
          | .ret => some (.ret, T', h', nx')
        | none => none
      | .cond b x y => match evS G T b with
        | some (.bool t) => ih (cond t x y) T h nx
        | _ => none
      | .block id body => match ih body T h nx with
        | some (e, T', h', nx') => match e with
          | .normal => some (.normal, T', h', nx')
          | .exit j => cond (Nat.beq j id) (some (.normal, T', h', nx')) (some (.exit j, T', h', nx'))
          | .ret => some (.ret, T', h', nx')
        | none => none
      | .loop body => match ih body T h nx with
        | some (e, T', h', nx') => match e with
          | .normal => ih (.loop body) T' h' nx'
          | .exit id => some (.exit id, T', h', nx')
          | .ret => some (.ret, T', h', nx')
        | none => none
      | .exit id => some (.exit id, T, h, nx)
      | .ret => some (.ret, T, h, nx)
      | _ => none) fuel
theorem codeS_succ (f : Nat) (c : Code) (T : Tr Value) (h : Tr SObj) (nx : Nat) : codeS P G call N (f + 1) c T h nx = match c with
      | .skip => some (.normal, T, h, nx)
      | .label _ => some (.normal, T, h, nx)
      | .region _ ops draw => match (cond draw (drawS P G call N ops.toList T h nx) (runL P G call N ops.toList ops.toList T h nx)) with
        | some (T', h', nx') => some (.normal, T', h', nx')
        | none => none
      | .seq x y => match codeS P G call N f x T h nx with
        | some (e, T', h', nx') => match e with
          | .normal => codeS P G call N f y T' h' nx'
          | .exit id => some (.exit id, T', h', nx')
          | .ret => some (.ret, T', h', nx')
        | none => none
      | .cond b x y => match evS G T b with
        | some (.bool t) => codeS P G call N f (cond t x y) T h nx
        | _ => none
      | .block id body => match codeS P G call N f body T h nx with
        | some (e, T', h', nx') => match e with
          | .normal => some (.normal, T', h', nx')
          | .exit j => cond (Nat.beq j id) (some (.normal, T', h', nx')) (some (.exit j, T', h', nx'))
          | .ret => some (.ret, T', h', nx')
        | none => none
      | .loop body => match codeS P G call N f body T h nx with
        | some (e, T', h', nx') => match e with
          | .normal => codeS P G call N f (.loop body) T' h' nx'
          | .exit id => some (.exit id, T', h', nx')
          | .ret => some (.ret, T', h', nx')
        | none => none
      | .exit id => some (.exit id, T, h, nx)
      | .ret => some (.ret, T, h, nx)
      | _ => none := rfl
/-- What is owed behind. -/
def Owed (G : Nat) (w0 : World) (N : Nat) (r : Ren) (nx : Nat) (x : XS) (T' : Tr Value) (h' : Tr SObj) (nx' : Nat) (Q : Exit → Act → World → Prop) : Prop :=
  ∀ r' a' w', Agree nx r r' → nx ≤ nx' → Den G w0 r' h' nx' w' → Frm G N r' nx' T' a' → Q x.toExit a' w'
theorem Owed.mono {r r1 : Ren} {nx n1 : Nat} {x : XS} {T' : Tr Value} {h' : Tr SObj} {nx' : Nat} {Q : Exit → Act → World → Prop} (hO : Owed G w0 N r nx x T' h' nx' Q) (ha : Agree nx r r1) (hn : nx ≤ n1) : Owed G w0 N r1 n1 x T' h' nx' Q :=
  fun r' a' w' q1 q2 q3 q4 => hO r' a' w' (ha.trans hn q1) (Nat.le_trans hn q2) q3 q4
theorem codeS_sound (hng : NoNG P) (hcall : CallOk P G w0 call) (hmix : P.follows .mixedOrders = true) (hN : N ≤ capB) : ∀ (f : Nat) (c : Code) (T : Tr Value) (h : Tr SObj) (nx : Nat) (r : Ren) (a : Act) (w : World) (x : XS) (T' : Tr Value) (h' : Tr SObj) (nx' : Nat) (Q : Exit → Act → World → Prop),
    codeS P G call N f c T h nx = some (x, T', h', nx') → Den G w0 r h nx w → Frm G N r nx T a → Owed G w0 N r nx x T' h' nx' Q → c.wp P Q a w ∧ ∀ body, c = .loop body → Code.rounds P body Q f a w := by
  intro f
  induction f with
  | zero => intro c T h nx r a w x T' h' nx' Q hs; cases hs
  | succ f ih =>
    intro c T h nx r a w x T' h' nx' Q hs D F hO
    rw [codeS_succ] at hs
    split at hs
    · cases hs
      exact ⟨wp_skip (hO r a w (Agree.refl _ _) (Nat.le_refl _) D F), fun body e => by cases e⟩
    · cases hs
      exact ⟨wp_label (hO r a w (Agree.refl _ _) (Nat.le_refl _) D F), fun body e => by cases e⟩
    · rename_i id ops draw
      refine ⟨?_, fun body e => by cases e⟩
      split at hs
      case h_2 => cases hs
      rename_i T1 h1 n1 hr
      cases hs
      cases draw with
      | true => exact drawS_sound hng hcall hmix hN hr D F fun r' a' w' q1 q2 q3 q4 => hO r' a' w' q1 q2 q3 q4
      | false => exact wp_region_list (runL_sound hng hcall hN ops.toList T h nx r a w T' h' nx' hr D F fun r' a' w' q1 q2 q3 q4 => hO r' a' w' q1 q2 q3 q4)
    · rename_i c1 c2
      refine ⟨wp_seq ?_, fun body e => by cases e⟩
      split at hs
      case h_2 => cases hs
      rename_i e T1 h1 n1 hr
      split at hs
      · refine (ih c1 T h nx r a w _ T1 h1 n1 _ hr D F fun r' a' w' q1 q2 q3 q4 => ?_).1
        exact (ih c2 T1 h1 n1 r' a' w' x T' h' nx' Q hs q3 q4 (hO.mono q1 q2)).1
      · cases hs
        exact (ih c1 T h nx r a w _ T' h' nx' (Exit.then (c2.wp P Q) Q) hr D F fun r' a' w' q1 q2 q3 q4 => hO r' a' w' q1 q2 q3 q4).1
      · cases hs
        exact (ih c1 T h nx r a w _ T' h' nx' (Exit.then (c2.wp P Q) Q) hr D F fun r' a' w' q1 q2 q3 q4 => hO r' a' w' q1 q2 q3 q4).1
    · rename_i b c1 c2
      refine ⟨?_, fun body e => by cases e⟩
      split at hs
      case h_2 => cases hs
      rename_i t hb
      have hev := (evS_sound D F.fit hb).1
      refine wp_cond (t := t) (by rw [hev]; simp only [ren]) ?_
      have := (ih _ T h nx r a w x T' h' nx' Q hs D F hO).1
      cases t <;> exact this
    · rename_i id body
      refine ⟨wp_block ?_, fun body e => by cases e⟩
      split at hs
      case h_2 => cases hs
      rename_i e T1 h1 n1 hr
      refine (ih body T h nx r a w e T1 h1 n1 _ hr D F fun r' a' w' q1 q2 q3 q4 => ?_).1
      split at hs
      · cases hs; exact hO r' a' w' q1 q2 q3 q4
      · rename_i j
        cases hb : Nat.beq j id with
        | true =>
          rw [hb, cond_true] at hs
          cases hs
          show Exit.inBlock id Q (.exit j) a' w'
          unfold Exit.inBlock
          simp only
          rw [if_pos (Nat.eq_of_beq_eq_true hb)]
          exact hO r' a' w' q1 q2 q3 q4
        | false =>
          rw [hb, cond_false] at hs
          cases hs
          show Exit.inBlock id Q (.exit j) a' w'
          unfold Exit.inBlock
          simp only
          rw [if_neg (Nat.ne_of_beq_eq_false hb)]
          exact hO r' a' w' q1 q2 q3 q4
      · cases hs; exact hO r' a' w' q1 q2 q3 q4
    · rename_i body
      have hrounds : Code.rounds P body Q (f + 1) a w := by
        rw [rounds_succ]
        split at hs
        case h_2 => cases hs
        rename_i e T1 h1 n1 hr
        split at hs
        · refine (ih body T h nx r a w _ T1 h1 n1 _ hr D F fun r' a' w' q1 q2 q3 q4 => ?_).1
          exact (ih (.loop body) T1 h1 n1 r' a' w' x T' h' nx' Q hs q3 q4 (hO.mono q1 q2)).2 body rfl
        · cases hs
          exact (ih body T h nx r a w _ T' h' nx' (Exit.then (Code.rounds P body Q f) Q) hr D F fun r' a' w' q1 q2 q3 q4 => hO r' a' w' q1 q2 q3 q4).1
        · cases hs
          exact (ih body T h nx r a w _ T' h' nx' (Exit.then (Code.rounds P body Q f) Q) hr D F fun r' a' w' q1 q2 q3 q4 => hO r' a' w' q1 q2 q3 q4).1
      exact ⟨wp_loop_rounds (f + 1) hrounds, fun b e => by cases e; exact hrounds⟩
    · cases hs
      exact ⟨wp_exit (hO r a w (Agree.refl _ _) (Nat.le_refl _) D F), fun body e => by cases e⟩
    · cases hs
      exact ⟨wp_ret (hO r a w (Agree.refl _ _) (Nat.le_refl _) D F), fun body e => by cases e⟩
    · cases hs
/-! ### functions -/
noncomputable def argsS (l : List Value) : Nat → Tr Value → Tr Value :=
  List.rec (motive := fun _ => Nat → Tr Value → Tr Value) (fun _ T => T) (fun v _ ih i T => ih (i + 1) (T.set i v)) l
theorem argsS_cons (v : Value) (l : List Value) (i : Nat) (T : Tr Value) : argsS (v :: l) i T = argsS l (i + 1) (T.set i v) := rfl
theorem argsS_get : ∀ (l : List Value) (i : Nat) (T : Tr Value), i + l.length < capB → ∀ t, (argsS l i T).get t = if i ≤ t ∧ t < i + l.length then l[t - i]? else T.get t
  | [], i, T, h, t => by
    have : ¬ (i ≤ t ∧ t < i + ([] : List Value).length) := by simp
    rw [if_neg this]; rfl
  | v :: l, i, T, h, t => by
    rw [List.length_cons] at h
    rw [argsS_cons, argsS_get l (i + 1) _ (by omega) t, Tr.get_set (by omega)]
    by_cases e : i = t
    · subst e
      rw [if_neg (by omega), if_pos rfl, if_pos (by simp), Nat.sub_self]; rfl
    · by_cases c : i + 1 ≤ t ∧ t < i + 1 + l.length
      · rw [if_pos c, if_pos (by rw [List.length_cons]; omega), show t - i = (t - (i + 1)) + 1 by omega, List.getElem?_cons_succ]
      · rw [if_neg c, if_neg e, if_neg (by rw [List.length_cons]; omega)]
noncomputable def resOne (P : Program) (T : Tr Value) (h : Tr SObj) : ResultVar → Option Value
  | .tmp t => some (slot T t)
  | .cell a t => loadS P h t (slot T a)
noncomputable def resL (P : Program) (T : Tr Value) (h : Tr SObj) (l : List ResultVar) : Option (List Value) :=
  List.rec (motive := fun _ => Option (List Value)) (some []) (fun x _ ih => match resOne P T h x with
    | some v => match ih with
      | some m => some (v :: m)
      | none => none
    | none => none) l
theorem resL_cons (T : Tr Value) (h : Tr SObj) (x : ResultVar) (l : List ResultVar) : resL P T h (x :: l) = match resOne P T h x with
    | some v => match resL P T h l with
      | some m => some (v :: m)
      | none => none
    | none => none := rfl
noncomputable def funS (P : Program) (G : Nat) (call : CallS) (fuel : Nat) (f : FuncId) (args : List Value) (h : Tr SObj) (nx : Nat) : Option (Value × Tr SObj × Nat) :=
  match P.funcs[f]? with
  | some fn => match fn.body with
    | some c => cond (Nat.ble args.length fn.ntmps && Nat.blt fn.ntmps capB)
      (match codeS P G call fn.ntmps fuel c (argsS args 0 .leaf) h nx with
        | some (x, T', h', nx') => match x with
          | .exit _ => none
          | _ => match resL P T' h' fn.results.toList with
            | some l => match l with
              | [v] => some (v, h', nx')
              | l => some (.tuple l.toArray, h', nx')
            | none => none
        | none => none) none
    | none => none
  | none => none
/-- A result, read. -/
def resSem (a : Act) : ResultVar → Sem Value
  | .tmp t => pure (a.tmps.getD t undef)
  | .cell b t => do loadVar t (← asAddr (a.tmps.getD b undef))
theorem results_sem (fn : Func) (a : Act) : results fn a.tmps = (do
    let vs ← fn.results.mapM (resSem a)
    pure (if h : vs.size = 1 then vs[0] else .tuple vs)) := by
  have e : (fun x : ResultVar => (match x with
    | .tmp t => pure (a.tmps.getD t undef)
    | .cell b t => do loadVar t (← asAddr (a.tmps.getD b undef)) : Sem Value)) = resSem a := by funext x; cases x <;> rfl
  rw [← e]; rfl
theorem resOne_sound {r : Ren} {h : Tr SObj} {nx : Nat} {w : World} {T : Tr Value} {a : Act} (D : Den G w0 r h nx w) (F : Frm G N r nx T a) {x : ResultVar} {v : Value} (hs : resOne P T h x = some v) : (resSem a x).run P w = .ok (ren r v) w ∧ Lt nx v := by
  cases x with
  | tmp t =>
    have e : slot T t = v := Option.some.inj hs
    subst e
    exact ⟨by show (pure (a.tmps.getD t undef) : Sem Value).run P w = _; rw [F.fit.val t, slot_getD]; rfl, slot_lt F.fit t⟩
  | cell b t =>
    replace hs : loadS P h t (slot T b) = some v := hs
    obtain ⟨h1, h2⟩ := loadS_sound D hs
    refine ⟨?_, h2⟩
    have hv := F.fit.val b
    rw [slot_getD] at hv
    show ((do loadVar t (← asAddr (a.tmps.getD b undef)) : Sem Value)).run P w = _
    rw [hv]
    unfold loadS at hs
    split at hs
    case h_2 => cases hs
    rename_i v0 b0 o0 hsl
    rw [hsl] at h1 ⊢
    simp only [ren, Instr.loadAt, Instr.sureAddr, Sem.run_bind, Sem.run_pure, Result.andThen_ok, asAddr] at h1 ⊢
    exact h1
theorem resL_sound {r : Ren} {h : Tr SObj} {nx : Nat} {w : World} {T : Tr Value} {a : Act} (D : Den G w0 r h nx w) (F : Frm G N r nx T a) : ∀ {l : List ResultVar} {m : List Value}, resL P T h l = some m → (l.mapM (resSem a)).run P w = .ok (renL r m) w ∧ LtL nx m
  | [], m, hs => by
    have e : ([] : List Value) = m := Option.some.inj hs
    subst e
    exact ⟨by simp [renL], by simp [LtL]⟩
  | x :: l, m, hs => by
    rw [resL_cons] at hs
    split at hs
    case h_2 => cases hs
    rename_i v hv
    split at hs
    case h_2 => cases hs
    rename_i m' hm
    cases hs
    obtain ⟨e1, e2⟩ := resOne_sound D F hv
    obtain ⟨e3, e4⟩ := resL_sound D F hm
    refine ⟨?_, by simp only [LtL]; exact ⟨e2, e4⟩⟩
    rw [List.mapM_cons, Sem.run_bind, e1]
    simp only [Result.andThen_ok, Sem.run_bind, e3, Sem.run_pure, renL]
theorem funS_ok (hng : NoNG P) (hcall : CallOk P G w0 call) (hmix : P.follows .mixedOrders = true) (fuel : Nat) : CallOk P G w0 (funS P G call fuel) := by
  intro f args h nx v h' nx' r w hs D hl
  unfold funS at hs
  split at hs
  case h_2 => cases hs
  rename_i fn hf
  split at hs
  case h_2 => cases hs
  rename_i c hb
  cases hc : (Nat.ble args.length fn.ntmps && Nat.blt fn.ntmps capB) with
  | false => rw [hc] at hs; cases hs
  | true =>
    rw [hc, cond_true] at hs
    rw [Bool.and_eq_true] at hc
    have c1 := Nat.le_of_ble_eq_true hc.1
    have c2 := blt_lt hc.2
    split at hs
    case h_2 => cases hs
    rename_i x T' h1 n1 hr
    have hT0 : ∀ t, (argsS args 0 .leaf).get t = args[t]? := fun t => by
      rw [argsS_get args 0 .leaf (by omega) t]
      by_cases e : t < args.length
      · rw [if_pos (by omega)]; rfl
      · rw [if_neg (by omega), Tr.get_leaf, List.getElem?_eq_none (by omega)]
    have F : Frm G fn.ntmps r nx (argsS args 0 .leaf) { tmps := (renL r args).toArray ++ Array.replicate (fn.ntmps - (renL r args).toArray.size) undef, defers := [] } := by
      refine ⟨⟨fun t => ?_, fun t u hu => ?_⟩, by simp [renL_len]; omega, rfl⟩
      · rw [hT0]
        simp only
        rw [Array.getD_eq_getD_getElem?, Array.getElem?_append]
        by_cases e : t < args.length
        · rw [if_pos (by rw [List.size_toArray, renL_len]; exact e), List.getElem?_toArray, renL_get, List.getElem?_eq_getElem e]; rfl
        · rw [if_neg (by rw [List.size_toArray, renL_len]; exact e), List.getElem?_eq_none (by omega), Array.getElem?_replicate]
          rw [Option.getD_none, undef_ren]
          split <;> rfl
      · rw [hT0] at hu
        exact hl.get hu
    refine calls_of_wp hf hb (codeS_sound hng hcall hmix (Nat.le_of_lt c2) fuel c _ h nx r _ w x T' h1 n1 _ hr D F ?_).1
    intro r' a' w' q1 q2 q3 q4
    have key : ∀ l, resL P T' h1 fn.results.toList = some l → (match l with
        | [v] => some (v, h1, n1)
        | l => some (.tuple l.toArray, h1, n1)) = some (v, h', nx') → a'.defers = [] ∧ ∃ u, (results fn a'.tmps).run P w' = .ok u w' ∧ Back G w0 r nx v h' nx' (.returned u) w' := fun l hl2 hs2 => by
      obtain ⟨e1, e2⟩ := resL_sound q3 q4 hl2
      have hres : ∀ vs : List Value, vs = renL r' l → (results fn a'.tmps).run P w' = .ok (match vs with
          | [u] => u
          | vs => .tuple vs.toArray) w' := fun vs hvs => by
        rw [results_sem, Array.mapM_eq_mapM_toList, map_eq_pure_bind, Sem.run_bind, Sem.run_bind, e1]
        simp only [Result.andThen_ok, Sem.run_pure]
        rw [← hvs]
        congr 1
        split
        · rename_i hsz
          cases vs with
          | nil => simp at hsz
          | cons u us => cases us with
            | nil => rfl
            | cons _ _ => simp at hsz
        · rename_i hsz
          cases vs with
          | nil => rfl
          | cons u us => cases us with
            | nil => simp at hsz
            | cons _ _ => rfl
      refine ⟨q4.defers, _, hres _ rfl, r', ?_, q1, ?_⟩
      · cases l with
        | nil => cases hs2; simp [renL, ren, renA]
        | cons v0 l => cases l with
          | nil => cases hs2; simp [renL]
          | cons v1 l => cases hs2; simp [renL, ren, renA]
      · cases l with
        | nil => cases hs2; exact ⟨q2, by simp [Lt, LtA, LtL], q3⟩
        | cons v0 l => cases l with
          | nil => cases hs2; exact ⟨q2, by simp only [LtL] at e2; exact e2.1, q3⟩
          | cons v1 l => cases hs2; exact ⟨q2, by simp only [Lt, LtA]; exact e2, q3⟩
    split at hs
    · cases hs
    · rename_i hx
      split at hs
      case h_2 => cases hs
      rename_i l hl2
      cases x with
      | exit j => exact absurd rfl (hx j)
      | normal => exact key l hl2 hs
      | ret => exact key l hl2 hs
/-- Calls, to a depth; what is known already comes first. -/
noncomputable def callN (P : Program) (G : Nat) (orc : CallS) (fuel : Nat) (d : Nat) : CallS :=
  Nat.rec (motive := fun _ => CallS) orc (fun _ ih f args h nx => match orc f args h nx with
    | some x => some x
    | none => funS P G ih fuel f args h nx) d
theorem callN_ok (hng : NoNG P) (hmix : P.follows .mixedOrders = true) {orc : CallS} (horc : CallOk P G w0 orc) (fuel : Nat) : ∀ d, CallOk P G w0 (callN P G orc fuel d)
  | 0 => horc
  | d + 1 => by
    intro f args h nx v h' nx' r w hs D hl
    replace hs : (match orc f args h nx with
      | some x => some x
      | none => funS P G (callN P G orc fuel d) fuel f args h nx) = some (v, h', nx') := hs
    split at hs
    · rename_i x hx
      cases hs
      exact horc f args h nx v h' nx' r w hx D hl
    · exact funS_ok hng (callN_ok hng hmix horc fuel d) hmix fuel f args h nx v h' nx' r w hs D hl
/-- The start: nothing is known of the memory. -/
theorem Den.start (w : World) : Den 0 w ⟨fun i => i, fun i => i⟩ .leaf 0 w :=
  ⟨Below.refl _ _, fun g hg => by omega, Nat.le_refl _, Nat.zero_le _, by decide, fun i h1 h2 => by omega, fun i j hi => by simp [Tr.get_leaf] at hi, fun i hi => by simp [Tr.get_leaf] at hi, fun i o hi => by simp [Tr.get_leaf] at hi, fun i o hi => by simp [Tr.get_leaf] at hi⟩
end Go.Rn
/-
  The document's Join; printable. Condition: sizes.
-/
namespace Go.Proofs.YtnljjlaececnkaaGreatDoor
open Go.RowKit
set_option linter.unusedVariables false
set_option linter.unusedSimpArgs false
end Go.Proofs.YtnljjlaececnkaaGreatDoor
/-
  strconv.ParseUint at base 16, of 8 bits. Condition: the variables hold what their initialisers laid; a text is no longer than memory has room for.
-/
namespace Go.Proofs.YtnljjlaececnkaaGreatDoor
open Go.RowKit
set_option linter.unusedVariables false
set_option linter.unusedSimpArgs false
end Go.Proofs.YtnljjlaececnkaaGreatDoor
/-
  Ids: eight bytes; their texts. No condition.
-/
namespace Go.Proofs.YtnljjlaececnkaaGreatDoor
open Go.RowKit
set_option linter.unusedVariables false
set_option linter.unusedSimpArgs false
/-- An id: eight bytes. -/
def isI (a : List Int) : Prop := a.length = 8 ∧ ∀ x ∈ a, 0 ≤ x ∧ x < 256
def oI (a : List Int) : Obj := .cells (nums .u8 a).toArray 68 (0, 0)
theorem size68 : (Tryz.prog.info? 68).map (·.size) = some 8 := by kernel_rfl
theorem info68 {a : List Int} (ha : isI a) : (Tryz.prog.info? 68).map (·.size) = some (nums .u8 a).toArray.size := by
  have : (nums .u8 a).toArray.size = 8 := by simp [nums_length, ha.1]
  rw [this]; exact size68
theorem ldI {W : World} {g : Nat} {a : List Int} (h : W.heap[g]? = some (oI a)) (ha : isI a) : (loadVar 68 ⟨g, 0, none⟩).run Tryz.prog W = .ok (vA a) W :=
  run_loadVar_mid W g 0 68 (nums .u8 a) _ (row_load h) Tryz.underlying68 rfl (by rw [nums_length, ha.1]; exact size68)
/-! ### texts -/
/-- A byte's text: two digits. -/
def hx2 (x : Int) : List UInt8 := [dig (x.toNat / 16), dig (x.toNat % 16)]
def idS (a : List Int) : List UInt8 := Lib.join (a.map hx2) [58]
theorem join_cons (p : List UInt8) {ps : List (List UInt8)} (h : ps ≠ []) : Lib.join (p :: ps) [58] = p ++ 58 :: Lib.join ps [58] := by
  cases ps with
  | nil => exact absurd rfl h
  | cons q ps => simp [Lib.join]
end Go.Proofs.YtnljjlaececnkaaGreatDoor
/-
  An id's text. Condition: the held start.
-/
namespace Go.Proofs.YtnljjlaececnkaaGreatDoor
open Go.RowKit
set_option linter.unusedVariables false
set_option linter.unusedSimpArgs false
theorem hexT_id {n : Nat} (h : n < 256) : hexT (256 + n) = 49 :: hx2 (n : Int) := by
  rw [hexT_big (by omega), hexT_big (by omega), hexT_small (by omega)]
  unfold hx2
  rw [Int.toNat_natCast, show (256 + n) / 16 / 16 = 1 by omega, show (256 + n) / 16 % 16 = n / 16 by omega, show (256 + n) % 16 = n % 16 by omega]
  rfl
theorem idx68 {a : List Int} {j : Nat} {x : Int} (hj : j < 8) (h : a[j]? = some x) (W : World) : (Instr.index 68 (.agg (nums .u8 a).toArray) (.int .i64 (j : Int))).run Tryz.prog W = .ok (.int .u8 x) W := by
  have hc : ((nums .u8 a).toArray)[j]? = some (.int .u8 x) := by rw [List.getElem?_toArray]; exact nums_get h
  unfold Instr.index
  simp only [Sem.run_bind, Sem.run_pure, asIntOf, Result.andThen_ok]
  simp [hj]
  unfold part
  simp [isAgg, hc]
/-- The pieces of an id's text. -/
def idP (a : List Int) : List ByteArray := a.map fun x => ⟨(hx2 x).toArray⟩
theorem idP_list (a : List Int) : (idP a).map (·.data.toList) = a.map hx2 := by unfold idP; rw [List.map_map]; rfl
theorem idS_len {a : List Int} (ha : isI a) : (idS a).length ≤ 24 := by
  have key : ∀ l : List Int, (Lib.join (l.map hx2) [58]).length ≤ 3 * l.length := fun l => by
    induction l with
    | nil => exact Nat.le_refl _
    | cons x r ih =>
      cases r with
      | nil => simp [Lib.join, hx2]
      | cons y r =>
        rw [List.map_cons, join_cons _ (by simp)]
        simp [hx2] at ih ⊢; omega
  have := key a
  rw [ha.1] at this; exact this
set_option maxRecDepth 100000 in
set_option maxHeartbeats 1600000 in
theorem printid_any {w : World} (E : Env w) {a : List Int} (ha : isI a) : Calls Tryz.prog 51 #[vA a] w fun e w' => e = .returned (.string ⟨(idS a).toArray⟩) ∧ Below w.heap.size w w' := by
  have hl := ldI (box1 w (oI a)) ha
  have hbx := Lib.hid (box1 w (oI a))
  have bel0 : Below w.heap.size w (w.alloc (oI a)) := (Below.refl _ _).alloc (Nat.le_refl _) _
  have HA := Lib.hid ha
  have h8 := ha.1
  replace h8 := Lib.hid h8
  have hlen := idS_len ha
  replace hlen := Lib.hid hlen
  clear ha
  unfold vA at hl ⊢
  go_enter Tryz.func51, Tryz.ntmps51
  go_wp2_with (refine wpList_load_mid rfl 68 (.tmp 1) rfl w.heap.size 0 rfl (nums .u8 a) _ (row_load hbx.out) Tryz.underlying68 rfl (info68 HA.out) ?_)
  go_loopw [3, 7] (fun x3 x7 wr => ∃ j : Nat, x7 = .int .i64 j ∧ j ≤ 8 ∧ Hid (wr.ownsRow 0 9 1 x3 j (strs (idP (a.take j)))) ∧ Lo w.heap.size x3 ∧ Below w.heap.size w wr) (fun x3 x7 wr => 8 - (intOf x7).toNat)
  case atStart => exact ⟨0, rfl, Nat.zero_le _, Lib.hid (by simpa [strs, idP] using own_nil _ _ _), Lo.nil _, bel0⟩
  case round =>
    obtain ⟨j, rfl, hj, ho, lo, bel⟩ := hrel
    by_cases hlt : j < 8
    · obtain ⟨x, hx⟩ := get_some (l := a) (j := j) (by rw [h8.out]; exact hlt)
      obtain ⟨x0, x1⟩ := HA.out.2 x (List.mem_of_getElem? hx)
      obtain ⟨n, rfl⟩ : ∃ n : Nat, x = n := ⟨x.toNat, by omega⟩
      have hn : n < 256 := by omega
      have hat := fun W => idx68 hlt hx W
      have hw1 : IntKind.u64.wrap (n : Int) = (n : Int) := IntWalk.u64_in _ (by omega)
      have hw2 : IntKind.u64.wrap (256 + (n : Int)) = ((256 + n : Nat) : Int) := (IntWalk.u64_in _ (by omega)).trans (by omega)
      have hT := hexT_id hn
      obtain ⟨y, hy⟩ : ∃ y : ByteArray, (⟨(hexT (256 + n)).toArray⟩ : ByteArray) = y := ⟨_, rfl⟩
      have hcall := fun W (h : Below w.heap.size w W) => hex_any (w := W) (E.go h).2 (u := 256 + n) (by omega)
      rw [hy] at hcall
      have hyl : y.data.toList = 49 :: hx2 (n : Int) := by rw [← hy, ← hT]
      have hys : y.size = 3 := by rw [← len_data, hyl]; rfl
      have hye : y.extract 1 3 = ⟨(hx2 (n : Int)).toArray⟩ := ba_eq (by rw [ext_list, hyl]; rfl)
      have ht : Hid (strs (idP (a.take (j + 1))) = strs (idP (a.take j)) ++ [.string ⟨(hx2 (n : Int)).toArray⟩]) := Lib.hid (by
        rw [take_snoc hx]; unfold strs idP; rw [List.map_append, List.map_append]; rfl)
      replace hcall := Lib.hid hcall
      clear hT hy hyl hx
      go_wp2_with (first | (go_at_call 121; refine (hcall.out _ bel).mono ?_; rintro e w1 ⟨rfl, bel1⟩; have bel2 := bel.trans (bel1.mono bel.size)) | (at_builtin; refine wpList_app1 rfl (.tmp 10) (.tmp 16) 23 rfl Tryz.underlying23 Tryz.info9 rfl (by decide) (by decide) [.string ⟨(hx2 (n : Int)).toArray⟩] rfl (by intro z hz; simp at hz; subst hz; rfl) rfl (own_below ho.out bel1 (own_lt ho.out)) rfl (by omega) ?_; intro v' w2 ho2 hn2 hf2))
      refine ⟨⟨j + 1, by congr 1, by omega, Lib.hid (by rw [ht.out]; exact ho2), lo.next hn2 bel2.size, bel2.trans (hf2.belowB lo bel2.size)⟩, by simp [intOf]; omega⟩
    · obtain rfl : j = 8 := by omega
      have ho2 := ho.out
      rw [List.take_of_length_le (by rw [h8.out]; exact Nat.le_refl _)] at ho2
      have hjc := join_call (xs := idP a) (sep := ⟨#[58]⟩) (by simp [idP, h8.out]) ho2 (by simp [idP, h8.out]) (by rw [idP_list]; exact Nat.le_trans hlen.out (by decide))
      rw [idP_list] at hjc
      go_wp2_with (go_at_call 114; refine hjc.mono ?_; rintro e w1 ⟨rfl, bel1⟩)
      go_ret
      exact ⟨rfl, bel.trans (bel1.mono bel.size)⟩
end Go.Proofs.YtnljjlaececnkaaGreatDoor
/-
  ParseId. Conditions: the held start; a text is no longer than the program's bound.
-/
namespace Go.Proofs.YtnljjlaececnkaaGreatDoor
open Go.RowKit
set_option linter.unusedVariables false
set_option linter.unusedSimpArgs false
end Go.Proofs.YtnljjlaececnkaaGreatDoor
/-
  The document's text of an id; its digit. No condition.
-/
namespace Go.Proofs.YtnljjlaececnkaaGreatDoor
open Go.RowKit
set_option linter.unusedVariables false
set_option linter.unusedSimpArgs false
end Go.Proofs.YtnljjlaececnkaaGreatDoor
/-
  The document's ParseId. Condition: a text is no longer than the program's bound.
-/
namespace Go.Proofs.YtnljjlaececnkaaGreatDoor
open Go.RowKit
set_option linter.unusedVariables false
set_option linter.unusedSimpArgs false
/-- A block is one of two ids. -/
def TwoI (g : Nat) (L M : List Int) (W : World) : Prop := W.heap[g]? = some (oI L) ∨ W.heap[g]? = some (oI M)
theorem TwoI.cell {g : Nat} {L M : List Int} {W : World} (h : TwoI g L M W) (hL : isI L) (hM : isI M) {i : Nat} (hi : i < 8) : (∃ u, W.cell? ⟨g, i, none⟩ = some (.int .u8 u)) ∧ W.frozen? ⟨g, i, none⟩ = false := by
  rcases h with h | h
  · obtain ⟨u, hu⟩ := get_some (l := L) (j := i) (by rw [hL.1]; exact hi)
    exact ⟨⟨u, (row_cell h).trans (by rw [List.getElem?_toArray]; exact nums_get hu)⟩, row_free h⟩
  · obtain ⟨u, hu⟩ := get_some (l := M) (j := i) (by rw [hM.1]; exact hi)
    exact ⟨⟨u, (row_cell h).trans (by rw [List.getElem?_toArray]; exact nums_get hu)⟩, row_free h⟩
theorem TwoI.set {g : Nat} {L : List Int} {W : World} {i : Nat} {v : Int} (h : TwoI g L (L.set i v) W) : (W.setCell ⟨g, i, none⟩ (.int .u8 v)).heap[g]? = some (oI (L.set i v)) := by
  rcases h with h | h
  · exact row_set h (i := i) (cs' := (nums .u8 (L.set i v)).toArray) (.int .u8 v) (by rw [List.setIfInBounds_toArray, nums_set])
  · exact row_set h (i := i) (cs' := (nums .u8 (L.set i v)).toArray) (.int .u8 v) (by rw [List.setIfInBounds_toArray, nums_set, List.set_set])
end Go.Proofs.YtnljjlaececnkaaGreatDoor
/-
  What a card's listed variables give the walks; the opening of arguments that are addresses, prefixes, pairs. No condition.
-/
namespace Go.Proofs.YtnljjlaececnkaaGreatDoor
open Go.ChangeShapes Go.WideShapes Go.ChangeAt Go.RowKit
set_option linter.unusedVariables false
set_option linter.unusedSimpArgs false
theorem c9' : Tryz.prog.cellsOf 9 = 1 := by kernel_rfl
theorem tab_below {P : Program} {w w' : World} {name : String} {k : IntKind} {zs : List Int} (h : Lib.TabIs P w name k zs) (hb : Below w.heap.size w w') : Lib.TabIs P w' name k zs := by
  unfold Lib.TabIs World.var? at *
  cases hg : P.globalNamed name with
  | none => simp [hg] at h
  | some g =>
    simp only [hg, Option.bind_some] at h ⊢
    have hlt : g < w.heap.size := by
      rcases Nat.lt_or_ge g w.heap.size with h' | h'
      · exact h'
      · simp [Array.getElem?_eq_none h'] at h
    rw [hb.block g hlt]; exact h
theorem EnvC.below {W W' : World} (h : EnvC W) (hb : Below W.heap.size W W') : EnvC W' := by
  have hc : ∀ {b o : Nat} {v : Value}, W.cell? ⟨b, o, none⟩ = some v → W'.cell? ⟨b, o, none⟩ = some v := fun {b o v} hv => by
    rw [hb.cell (p := ⟨b, o, none⟩) (World.block_lt_of_cell? W _ hv)]; exact hv
  obtain ⟨⟨m, h1⟩, ⟨e1, h2, i2⟩, ⟨e2, h3, i3⟩, h4, h5⟩ := h
  exact ⟨⟨m, hc h1⟩, ⟨e1, hc h2, i2⟩, ⟨e2, hc h3, i3⟩, tab_below h4 hb, hc h5⟩
theorem EnvC.env {W : World} (h : EnvC W) : Env W := fun W' hb => h.below hb
theorem rep_get {α : Type} {n i : Nat} (k : α) (h : i < n) : (List.replicate n k)[i]? = some k := by rw [List.getElem?_replicate, if_pos h]
section
variable {w : World} {r : Reach} {base : Nat} {v : Value}
end
end Go.Proofs.YtnljjlaececnkaaGreatDoor
/-
  The opening of arguments that are lists of texts, or ids; how long a joined line may be. No condition.
-/
namespace Go.Proofs.YtnljjlaececnkaaGreatDoor
open Go.ChangeShapes Go.WideShapes Go.ChangeAt Go.RowKit
set_option linter.unusedVariables false
set_option linter.unusedSimpArgs false
/-- A list of texts that came in. -/
def SIn (W : World) (v : Value) (xs : List ByteArray) : Prop := SRow W v xs ∧ xs.length ≤ 9223372036854775807 ∧ ∀ x ∈ xs, x.size ≤ 140737488351232
section
variable {H : Type} {enc : TypeId × Value → H} {W : World} {base : Nat}
theorem Reads.str {P : Program} {t : TypeId} {cs : List Value} (h : Reads enc P W t cs) (hu : P.underlying t = some .string) : ∃ s : ByteArray, cs = [.string s] ∧ s.size ≤ 140737488351232 := by
  obtain ⟨fuel, d, ps, h, hw⟩ := h
  obtain ⟨s, rfl, hx, -⟩ := DataW.trod_string hu h
  obtain ⟨rfl, rfl⟩ := Prod.mk.inj hx
  refine ⟨s, rfl, ?_⟩
  have := hw s.data.toList.length (by simp [DataW.weights])
  rw [len_data] at this
  exact this
set_option maxRecDepth 100000 in
theorem open_SS {v : Value} {d : DataW H} {ps : List MemPlace} (hval : Value.okWide Tryz.prog W .any base 23 v) (h : DataW.Trod enc Tryz.prog W 0 (fun _ => true) true 23 v d ps) {ts : List TypeId} {ds : List (DataW H)} (hsz : (DataW.weightsEach Tryz.prog ts ds).all (· ≤ reachBytes) = true) {j : Nat} (ht : ts[j]? = some 23) (hd : ds[j]? = some d) : ∃ xs : List ByteArray, SIn W v xs := by
  obtain ⟨a, len, cap, rfl⟩ := okWide_slice Tryz.underlying23 hval
  have hr := Reads.of_arg h (by simp [Value.cells]) hsz ht hd
  obtain ⟨v', els, hv, hcl, hrow, -, hel⟩ := hr.slice Tryz.underlying23 c9' (by decide) (B := 16) (by kernel_rfl)
  cases hv
  obtain ⟨xs, rfl⟩ := exists_map (fun s : ByteArray => [Value.string s]) els (fun c hc => by
    obtain ⟨s, hs, -⟩ := Reads.str (hel c hc) Tryz.underlying9
    exact ⟨s, hs⟩)
  have hfl : (xs.map fun s => [Value.string s]).flatten = strs xs := by
    unfold strs
    clear hel hrow hcl
    induction xs with
    | nil => rfl
    | cons x xs ih => rw [List.map_cons, List.flatten_cons, ih]; rfl
  rw [hfl] at hrow
  refine ⟨xs, SRow.of_row hrow, ?_, fun x hx => ?_⟩
  · obtain ⟨A, c, hv, h1, h2⟩ := hrow.head
    rw [List.length_map] at h1; omega
  · obtain ⟨s, hs, hb⟩ := Reads.str (hel [.string x] (List.mem_map.2 ⟨x, hx, rfl⟩)) Tryz.underlying9
    cases hs; exact hb
end
end Go.Proofs.YtnljjlaececnkaaGreatDoor
/-
  The stage's first line: an address of each family, a prefix, the best of two. Condition: the variables hold what their initialisers laid.
-/
namespace Go.Proofs.YtnljjlaececnkaaGreatDoor
open Go.RowKit
set_option linter.unusedVariables false
set_option linter.unusedSimpArgs false
theorem pp_is {w : World} (E : Env w) {s : ByteArray} {p : Pf} {n : Int} (hs : s.size < 4294967281) (h : parsePS s = (p, n)) : Calls Tryz.prog 56 #[.string s] w fun e w' => e = .returned (.tuple #[vPf p, .int .i64 n]) ∧ Below w.heap.size w w' :=
  (pp_any E hs).mono fun e w' he => ⟨by have := he.1; unfold PPR at this; rw [this, h], he.2⟩
end Go.Proofs.YtnljjlaececnkaaGreatDoor
/-
  Plain laws of an address in groups, as the document lays it. No condition.
-/
namespace Go.Proofs.YtnljjlaececnkaaGreatDoor
open Go.RowKit
set_option linter.unusedVariables false
set_option linter.unusedSimpArgs false
/-- What is laid of the first groups. -/
def outAt (G : List Nat) (r : Nat × Nat) (i : Nat) : List UInt8 :=
  if r.1 = r.2 ∨ i ≤ r.1 then joinS (G.take i) else joinS (G.take r.1) ++ [58, 58] ++ joinS ((G.take i).drop r.2)
theorem outAt_all {a : List Int} : outAt (groups a) (runAt (groups a) 8) 8 = groupedS a := by
  have h := runAt_le (groups a) 8 (by rw [groups_len]; omega)
  have h2 := runAt_two (groups a) 8
  have hl := groups_len a
  unfold outAt groupedS
  simp only
  generalize groups a = G at *
  generalize runAt G 8 = r at *
  rw [List.take_of_length_le (l := G) (by omega)]
  by_cases e : r.1 = r.2
  · rw [if_pos (.inl e), if_pos e.symm]
  · rw [if_neg (by omega), if_neg (by omega)]
theorem groupedS_len {a : List Int} (ha : isA a) (i : Nat) (hi : i ≤ 8) : (outAt (groups a) (runAt (groups a) 8) i).length ≤ 100 := by
  have tl : ∀ l : List Nat, (∀ u ∈ l, u < 65536) → (Lib.joinTail [58] (l.map hexT)).length ≤ 5 * l.length := by
    intro l
    induction l with
    | nil => intro _; simp [Lib.joinTail]
    | cons u l ih =>
      intro h
      have h1 := hexT_len 3 u (h u (by simp))
      have h2 := ih fun v hv => h v (by simp [hv])
      rw [tail_cons]; simp; omega
  have jl : ∀ l : List Nat, (∀ u ∈ l, u < 65536) → (joinS l).length ≤ 5 * l.length := by
    intro l h
    cases l with
    | nil => simp [joinS_nil]
    | cons u l =>
      have h1 := hexT_len 3 u (h u (by simp))
      have h2 := tl l fun v hv => h v (by simp [hv])
      rw [joinS_cons]; simp; omega
  have hlt := groups_lt ha
  have hl := groups_len a
  unfold outAt
  split
  · have := jl ((groups a).take i) fun u hu => hlt u (List.mem_of_mem_take hu)
    rw [List.length_take] at this; omega
  · have h1 := jl ((groups a).take (runAt (groups a) 8).1) fun u hu => hlt u (List.mem_of_mem_take hu)
    have h2 := jl (((groups a).take i).drop (runAt (groups a) 8).2) fun u hu => hlt u (List.mem_of_mem_take (List.mem_of_mem_drop hu))
    rw [List.length_take] at h1
    rw [List.length_drop, List.length_take] at h2
    simp; omega
end Go.Proofs.YtnljjlaececnkaaGreatDoor
/-
  An address in groups, the document's. Condition: an address is sixteen bytes.
-/
namespace Go.Proofs.YtnljjlaececnkaaGreatDoor
open Go.RowKit
set_option linter.unusedVariables false
set_option linter.unusedSimpArgs false
end Go.Proofs.YtnljjlaececnkaaGreatDoor
