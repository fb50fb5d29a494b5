/-
  Rows that came in, of any kind; numbers laid behind bytes. Condition: each number is of its kind.
-/
import Derived.Test.YtgfhhnmhpncnlaaD
namespace Go.Proofs.Ytgfhhnmhpncnlaa
open Go.RowKit
set_option linter.unusedVariables false
set_option linter.unusedSimpArgs false

/-- The slice value v has n elements of sz cells each, and these are xs; its block is none of S. -/
def Row (w : World) (S : Nat → Prop) (sz : Nat) (v : Value) (n : Nat) (xs : List Value) : Prop :=
  xs.length = n * sz ∧ ∃ A c, v = .slice A n c ∧ n ≤ c ∧ c ≤ maxLen ∧ (A = none → c = 0) ∧
    ∀ a, A = some a → 0 < n → ∃ b o, a = ⟨b, o, none⟩ ∧ ¬ S b ∧ b < w.heap.size ∧ ∀ j u, xs[j]? = some u → w.cell? ⟨b, o + j, none⟩ = some u
theorem Row.fr {w w' : World} {S S' : Nat → Prop} {sz n : Nat} {v : Value} {xs : List Value} (h : Row w S sz v n xs) (hf : Fr S' w w') (hs : ∀ b, b < w.heap.size → S' b → S b) : Row w' S sz v n xs := by
  obtain ⟨h0, A, c, rfl, h1, h2, h3, h5⟩ := h
  refine ⟨h0, A, c, rfl, h1, h2, h3, fun a ha hn => ?_⟩
  obtain ⟨b, o, p1, p2, p3, p4⟩ := h5 a ha hn
  exact ⟨b, o, p1, p2, Nat.lt_of_lt_of_le p3 hf.size, fun j u hj => hf.cell (p4 j u hj) (fun h => p2 (hs _ p3 h))⟩
theorem Row.mono {w : World} {S S' : Nat → Prop} {sz n : Nat} {v : Value} {xs : List Value} (h : Row w S sz v n xs) (hs : ∀ b, S' b → S b) : Row w S' sz v n xs := by
  obtain ⟨h0, A, c, rfl, h1, h2, h3, h5⟩ := h
  refine ⟨h0, A, c, rfl, h1, h2, h3, fun a ha hn => ?_⟩
  obtain ⟨b, o, p1, p2, p3, p4⟩ := h5 a ha hn
  exact ⟨b, o, p1, fun h => p2 (hs _ h), p3, p4⟩
/-- The head of a slice, and where an element lies. -/
theorem Row.head {w : World} {S : Nat → Prop} {sz n : Nat} {v : Value} {xs : List Value} (h : Row w S sz v n xs) : ∃ A c, v = .slice A n c ∧ n ≤ c ∧ c ≤ 9223372036854775807 := by
  obtain ⟨h0, A, c, rfl, h1, h2, h3, h5⟩ := h
  exact ⟨A, c, rfl, h1, by unfold maxLen at h2; omega⟩
theorem Row.at_ {w : World} {S : Nat → Prop} {sz n c : Nat} {A : Option Addr} {xs : List Value} (h : Row w S sz (.slice A n c) n xs) (hn : 0 < n) :
    ∃ b o, A = some ⟨b, o, none⟩ ∧ ¬ S b ∧ b < w.heap.size ∧ ∀ j u, xs[j]? = some u → w.cell? ⟨b, o + j, none⟩ = some u := by
  obtain ⟨h0, A', c', hv, h1, h2, h3, h5⟩ := h
  injection hv with e1 e2 e3
  subst e1 e3
  cases A with
  | none => have := h3 rfl; omega
  | some a =>
    obtain ⟨b, o, rfl, p2, p3, p4⟩ := h5 a rfl hn
    exact ⟨b, o, rfl, p2, p3, p4⟩
/-- Numbers of a kind. -/
def nums (k : IntKind) (l : List Int) : List Value := l.map (Value.int k)
theorem nums_length (k : IntKind) (l : List Int) : (nums k l).length = l.length := by simp [nums]
theorem nums_at (k : IntKind) (l : List Int) {j : Nat} (h : j < l.length) : (nums k l)[j]? = some (.int k (l.getD j 0)) := by
  simp [nums, List.getElem?_map, List.getD_eq_getElem?_getD, List.getElem?_eq_getElem h]
def isN (m : Int) (l : List Int) : Prop := ∀ x ∈ l, 0 ≤ x ∧ x < m

/-- The bytes of numbers. -/
def putAll (k : Nat) (l : List Int) : List Int := l.flatMap (putL · k)
theorem putAll_length (k : Nat) (l : List Int) : (putAll k l).length = l.length * k := by
  induction l with
  | nil => simp [putAll]
  | cons x l ih => simp only [putAll, List.flatMap_cons, List.length_append, putL_length, List.length_cons] at *; rw [ih, Nat.add_mul]; omega
theorem putAll_snoc (k : Nat) (l : List Int) (j : Nat) (h : j < l.length) : putAll k (l.take (j + 1)) = putAll k (l.take j) ++ putL (l.getD j 0) k := by
  unfold putAll
  rw [List.take_succ_eq_append_getElem h, List.flatMap_append, List.getD_eq_getElem?_getD, List.getElem?_eq_getElem h]; simp

set_option maxHeartbeats 800000 in
theorem Put16_any {w : World} {S : Nat → Prop} {v x : Value} {l m : List Int} (h : Ob w v l) (hx : Row w S 1 x m.length (nums .u16 m)) (hS : ∀ b, v.ownBlock = some b → S b) (hm : isN 65536 m) (hl : l.length + m.length * 2 ≤ 140737488355328) :
    Calls Try.prog 33 #[v, x] w fun e w' => ∃ v', e = .returned v' ∧ Ob w' v' (l ++ putAll 2 m) ∧ Nx w v v' ∧ FrV v w w' := by
  obtain ⟨A, c, rfl, hc1, hc2⟩ := hx.head
  go_enter Try.func33, Try.ntmps33
  go_wp2
  go_loopw [0, 9] (fun u i wr => ∃ j : Nat, j ≤ m.length ∧ i = .int .i64 j ∧ Ob wr u (l ++ putAll 2 (m.take j)) ∧ Nx w v u ∧ FrV v w wr) (fun _ i _ => m.length - (intOf i).toNat)
  case atStart => exact ⟨0, Nat.zero_le _, rfl, by simpa [putAll] using h, Nx.refl _ _, Fr.refl _ _⟩
  case round =>
    obtain ⟨j, hj, rfl, ho, hn, hf⟩ := hrel
    by_cases hlt : j < m.length
    · obtain ⟨b, o, rfl, p1, p2, p3⟩ := hx.at_ (by omega)
      have hc := p3 j _ (nums_at .u16 m hlt)
      have hc' : wr.cell? ⟨b, o + j, none⟩ = _ := hf.cell hc (fun hb => p1 (hS b hb))
      have hr := hm _ (getD_mem hlt)
      have hs := Lib.hid (putAll_snoc 2 m j hlt)
      have hlen : (l ++ putAll 2 (m.take j)).length + 2 ≤ 140737488355328 := by rw [List.length_append, putAll_length, List.length_take]; omega
      generalize m.getD j 0 = y at *
      go_wp2_with (go_at_call 50; refine (put_any ho y hr.1 (by omega) 2 (by decide) hlen).mono ?_; rintro e w1 ⟨v1, rfl, ho1, hn1, hf1⟩)
      go_roundw
      case rel => exact ⟨j + 1, by omega, by go_num, by rw [hs.out, ← List.append_assoc]; exact ho1, hn.trans hn1 hf.size, hf.step hn hf1⟩
      case measure => simp [intOf]; omega
    · obtain rfl : j = m.length := by omega
      go_wp2
      go_ret
      exact ⟨_, rfl, by rw [List.take_length] at ho; exact ho, hn, hf⟩
end Go.Proofs.Ytgfhhnmhpncnlaa
