/-
  Split. Condition: what comes in is a slice of bytes of less than 4 * 10^12.
-/
import Derived.Test.YtgfhhnmhpncnlaaU
namespace Go.Proofs.Ytgfhhnmhpncnlaa
open Go.RowKit
set_option linter.unusedVariables false
set_option linter.unusedSimpArgs false

/-- Pieces of the call's own: their bodies lie outside of S and of the list's own row. -/
def OR (w : World) (S : Nat → Prop) (v : Value) (rs : List (Int × List Int)) : Prop :=
  ∃ us, us.length = rs.length ∧ w.ownsRow 0 82 2 v rs.length (rawCs rs us).flatten ∧ ∀ j u, us[j]? = some u → Bs w (fun b => v.ownBlock = some b ∨ S b) u (rs.getD j (0, [])).2
theorem Try.info82z : (Try.prog.info? 82).map (fun i => (i.zero, i.size, i.bytes)) = some (some (.agg #[.int .u8 0, .slice none 0 0]), 2, 32) := by kernel_rfl
theorem OR.nil (w : World) (S : Nat → Prop) : OR w S (.slice none 0 0) [] := ⟨[], rfl, World.ownsRow_nil _ _ _ _, fun j u h => by simp at h⟩
theorem OR.fr {w w' : World} {S S' : Nat → Prop} {v : Value} {rs : List (Int × List Int)} (h : OR w S v rs) (hf : Fr S' w w') (hS : ∀ b, v.ownBlock = some b → ¬ S' b) (hs : ∀ b, S' b → S b) : OR w' S v rs := by
  obtain ⟨us, h1, h2, h3⟩ := h
  exact ⟨us, h1, own_fr h2 hf hS, fun j u hj => (h3 j u hj).fr hf (fun b _ hb => .inr (hs b hb))⟩
theorem OR.lt {w : World} {S : Nat → Prop} {v : Value} {rs : List (Int × List Int)} (h : OR w S v rs) : ∀ b, v.ownBlock = some b → b < w.heap.size := by
  obtain ⟨us, h1, h2, h3⟩ := h
  exact fun b hb => (h2.lt b hb).2
theorem wp_appR {w : World} {o : Oper} {a : Act} {K : Act → World → Prop} {Q : Exit → Act → World → Prop} (s x : Operand)
    (ho : o.op = .call { callee := .builtin .append, args := #[s, x], argTypes := #[72, 72] })
    {v u : Value} {rs : List (Int × List Int)} {ty : Int} {l : List Int} (hs : a.eval s = v) {S : Nat → Prop} (hown : OR w S v rs) (hx : a.eval x = .slice (some ⟨w.heap.size, 0, none⟩) 1 1) (hu : Bs w (fun b => v.ownBlock = some b ∨ S b) u l)
    (hl : (rs.length + 1) * 32 ≤ 140737488355328)
    (h : ∀ v' w', OR w' S v' (rs ++ [(ty, l)]) → Nx w v v' → FrV v w w' → K (a.put o.dst v') w') : Oper.wp Try.prog o a (w.alloc (.cells #[.int .u8 ty, u] 82)) K Q := by
  obtain ⟨us, h1, h2, h3⟩ := hown
  have hal : Fr (fun _ => False) w (w.alloc (.cells #[.int .u8 ty, u] 82)) := (Fr.refl _ w).alloc _
  obtain ⟨A, c, rfl, -⟩ := id hu
  refine wp_app _ s x 72 ho 82 _ 2 32 Try.underlying72 Try.info82z rfl (by decide) v rs.length _ hs (own_fr h2 hal (fun _ _ h => h)) (some ⟨w.heap.size, 0, none⟩) 1 1 [.int .u8 ty, .slice A l.length c] hx rfl (fun h => by cases h) (new_cells w [.int .u8 ty, .slice A l.length c] 82) (by intro z hz; simp at hz; rcases hz with rfl | rfl <;> rfl) hl (by decide) (fun v' w' g1 g2 g3 => ?_)
  have hn : Nx w v v' := by
    rcases g2 with g | ⟨k, g, hk⟩
    · exact .inl g
    · exact .inr ⟨k, g, by simp at hk; omega⟩
  have hset : ∀ b, v'.ownBlock = some b → v.ownBlock = some b ∨ w.heap.size ≤ b := fun b hb => by
    rcases hn with g | ⟨k, g, hk⟩
    · exact .inl (g ▸ hb)
    · rw [g] at hb; cases hb; exact .inr hk
  have hf : FrV v w w' := Fr.trans (S := fun b => v.ownBlock = some b) ((Fr.refl _ w).alloc _) g3 (fun b hb => .inl hb)
  refine h v' w' ⟨us ++ [.slice A l.length c], by simp [h1], ?_, ?_⟩ hn hf
  · have e : (rawCs (rs ++ [(ty, l)]) (us ++ [.slice A l.length c])).flatten = (rawCs rs us).flatten ++ [.int .u8 ty, .slice A l.length c] := by
      unfold rawCs; rw [List.zipWith_append h1.symm]; simp
    rw [e, List.length_append]; exact g1
  · intro j z hj
    by_cases hlt : j < us.length
    · rw [List.getElem?_append_left hlt] at hj
      have := h3 j z hj
      rw [List.getD_eq_getElem?_getD, List.getElem?_append_left (by omega), ← List.getD_eq_getElem?_getD]
      exact (this.old.fr hf (fun b _ hb => .inl (.inl hb))).mono_l rfl (fun b hb => hb.elim (fun h => (hset b h).imp .inl id) (fun h => .inl (.inr h)))
    · obtain rfl : j = us.length := by
        have := (List.getElem?_eq_some_iff.1 hj).1; simp at this; omega
      simp at hj
      subst hj
      have e : (rs ++ [(ty, l)]).getD us.length (0, []) = (ty, l) := by rw [List.getD_eq_getElem?_getD, h1]; simp
      rw [e]
      exact (hu.old.fr hf (fun b _ hb => .inl (.inl hb))).mono_l rfl (fun b hb => hb.elim (fun h => (hset b h).imp .inl id) (fun h => .inl (.inr h)))
theorem wpList_appR {w : World} {ops : Array Oper} {rest : List Oper} {o : Oper} {a : Act} {Q : Exit → Act → World → Prop} (hgd : o.guard = none) (s x : Operand)
    (ho : o.op = .call { callee := .builtin .append, args := #[s, x], argTypes := #[72, 72] })
    {v u : Value} {rs : List (Int × List Int)} {ty : Int} {l : List Int} (hs : a.eval s = v) {S : Nat → Prop} (hown : OR w S v rs) (hx : a.eval x = .slice (some ⟨w.heap.size, 0, none⟩) 1 1) (hu : Bs w (fun b => v.ownBlock = some b ∨ S b) u l)
    (hl : (rs.length + 1) * 32 ≤ 140737488355328)
    (h : ∀ v' w', OR w' S v' (rs ++ [(ty, l)]) → Nx w v v' → FrV v w w' → wpList Try.prog ops Q rest (a.put o.dst v') w') : wpList Try.prog ops Q (o :: rest) a (w.alloc (.cells #[.int .u8 ty, u] 82)) :=
  wpList_of_wp hgd fun _ hK => wp_appR s x ho hs hown hx hu hl (fun v' w' h1 h2 h3 => hK _ _ (h v' w' h1 h2 h3))

/-- The pieces of bytes. -/
def spl : Nat → List (Int × List Int) → List Int → List (Int × List Int) × Int
  | 0, acc, _ => (acc, 0)
  | _ + 1, acc, [] => (acc, 0)
  | k + 1, acc, t :: rest => if t = 0 then spl k (acc ++ [(0, [])]) rest else match rest with
    | [] => (acc, 52)
    | n :: q => if n > q.length then (acc, 52) else spl k (acc ++ [(t, q.take n.toNat)]) (q.drop n.toNat)

/-- A reader that goes on in its bytes: what it reads next. -/
theorem bytes_one {p : List Int} {k : Nat} {t : Int} {rest : List Int} (h : p.drop k = t :: rest) : (⟨p, k, 0, 0⟩ : Rd).bytes 1 = ([t], ⟨p, k + 1, 0, 0⟩) ∧ p.drop (k + 1) = rest ∧ k < p.length := by
  have hk : k < p.length := by
    by_cases h' : k < p.length
    · exact h'
    · rw [List.drop_eq_nil_of_le (by omega)] at h; cases h
  refine ⟨?_, ?_, hk⟩
  · have := bytes_ok (p := p) (k := k) (n := 1) (by omega)
    rw [show ((1 : Nat) : Int) = 1 from rfl] at this
    rw [this, h]; rfl
  · rw [← List.drop_drop, h]; rfl
theorem bytes_bad {p : List Int} {k : Nat} {n : Int} (h0 : 0 ≤ n) (h : n > p.length - k) (hk : k ≤ p.length) : (⟨p, k, 0, 0⟩ : Rd).bytes n = ([], ⟨p, k, 3, k⟩) := by
  unfold Rd.bytes
  rw [if_neg (by simp), if_neg (by omega), if_pos (by simp only [Rd.left]; omega)]
  simp [Rd.fail]
theorem bytes_err {p : List Int} {k : Nat} {n e : Int} {s : Int} (h : e ≠ 0) : (⟨p, k, e, s⟩ : Rd).bytes n = ([], ⟨p, k, e, s⟩) := by
  unfold Rd.bytes
  rw [if_pos h]
theorem be_one {t : Int} (h0 : 0 ≤ t) (h1 : t < 256) : be [t] % 256 = t := by simp [be, beStep]; omega
end Go.Proofs.Ytgfhhnmhpncnlaa
