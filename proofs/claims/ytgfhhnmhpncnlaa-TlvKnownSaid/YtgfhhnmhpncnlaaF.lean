/-
  More of what octet and its reference lay. Condition: the row is the call's own.
-/
import Derived.Test.YtgfhhnmhpncnlaaE
namespace Go.Proofs.Ytgfhhnmhpncnlaa
open Go.RowKit
set_option linter.unusedVariables false
set_option linter.unusedSimpArgs false

set_option maxHeartbeats 800000 in
theorem Put32_any {w : World} {S : Nat → Prop} {v x : Value} {l m : List Int} (h : Ob w v l) (hx : Row w S 1 x m.length (nums .u32 m)) (hS : ∀ b, v.ownBlock = some b → S b) (hm : isN 4294967296 m) (hl : l.length + m.length * 4 ≤ 140737488355328) :
    Calls Try.prog 32 #[v, x] w fun e w' => ∃ v', e = .returned v' ∧ Ob w' v' (l ++ putAll 4 m) ∧ Nx w v v' ∧ FrV v w w' := by
  obtain ⟨A, c, rfl, hc1, hc2⟩ := hx.head
  go_enter Try.func32, Try.ntmps32
  go_wp2
  go_loopw [0, 9] (fun u i wr => ∃ j : Nat, j ≤ m.length ∧ i = .int .i64 j ∧ Ob wr u (l ++ putAll 4 (m.take j)) ∧ Nx w v u ∧ FrV v w wr) (fun _ i _ => m.length - (intOf i).toNat)
  case atStart => exact ⟨0, Nat.zero_le _, rfl, by simpa [putAll] using h, Nx.refl _ _, Fr.refl _ _⟩
  case round =>
    obtain ⟨j, hj, rfl, ho, hn, hf⟩ := hrel
    by_cases hlt : j < m.length
    · obtain ⟨b, o, rfl, p1, p2, p3⟩ := hx.at_ (by omega)
      have hc := p3 j _ (nums_at .u32 m hlt)
      have hc' : wr.cell? ⟨b, o + j, none⟩ = _ := hf.cell hc (fun hb => p1 (hS b hb))
      have hr := hm _ (getD_mem hlt)
      have hs := Lib.hid (putAll_snoc 4 m j hlt)
      have hlen : (l ++ putAll 4 (m.take j)).length + 4 ≤ 140737488355328 := by rw [List.length_append, putAll_length, List.length_take]; omega
      generalize m.getD j 0 = y at *
      go_wp2_with (go_at_call 50; refine (put_any ho y hr.1 hr.2 4 (by decide) hlen).mono ?_; rintro e w1 ⟨v1, rfl, ho1, hn1, hf1⟩)
      go_roundw
      case rel => exact ⟨j + 1, by omega, by go_num, by rw [hs.out, ← List.append_assoc]; exact ho1, hn.trans hn1 hf.size, hf.step hn hf1⟩
      case measure => simp [intOf]; omega
    · obtain rfl : j = m.length := by omega
      go_wp2
      go_ret
      exact ⟨_, rfl, by rw [List.take_length] at ho; exact ho, hn, hf⟩

set_option maxHeartbeats 800000 in
theorem Put8_any {w : World} {S : Nat → Prop} {v x : Value} {l m : List Int} (h : Ob w v l) (hx : Bs w S x m) (hl : l.length + m.length ≤ 140737488355328) :
    Calls Try.prog 34 #[v, x] w fun e w' => ∃ v', e = .returned v' ∧ Ob w' v' (l ++ m) ∧ Nx w v v' ∧ FrV v w w' := by
  go_enter Try.func34, Try.ntmps34
  go_wp2_with (at_builtin; refine wpList_appB rfl (.tmp 5) (.tmp 6) rfl rfl h rfl hx hl ?_; intro v' w1 ho1 hn1 hf1)
  go_ret
  exact ⟨_, rfl, ho1, hn1, hf1⟩

/-- A list of byte slices: the element values, and what each reads as. -/
def RowsB (w : World) (S : Nat → Prop) (x : Value) (ms : List (List Int)) : Prop :=
  ∃ vs, Row w S 1 x ms.length vs ∧ ∀ j u, vs[j]? = some u → Bs w S u (ms.getD j [])
theorem flat_snoc (ms : List (List Int)) (j : Nat) (h : j < ms.length) : (ms.take (j + 1)).flatten = (ms.take j).flatten ++ ms.getD j [] := by
  rw [List.take_succ_eq_append_getElem h, List.flatten_append, List.getD_eq_getElem?_getD, List.getElem?_eq_getElem h]; simp
theorem flat_le (ms : List (List Int)) (j : Nat) (h : j < ms.length) : (ms.take j).flatten.length + (ms.getD j []).length ≤ ms.flatten.length := by
  rw [← List.length_append, ← flat_snoc ms j h]
  have := congrArg List.length (congrArg List.flatten (List.take_append_drop (j + 1) ms))
  rw [List.flatten_append, List.length_append] at this; omega

set_option maxHeartbeats 800000 in
theorem PutBytes_any {w : World} {S : Nat → Prop} {v x : Value} {l : List Int} {ms : List (List Int)} (h : Ob w v l) (hx : RowsB w S x ms) (hS : ∀ b, v.ownBlock = some b → S b) (hl : l.length + ms.flatten.length ≤ 140737488355328) :
    Calls Try.prog 36 #[v, x] w fun e w' => ∃ v', e = .returned v' ∧ Ob w' v' (l ++ ms.flatten) ∧ Nx w v v' ∧ FrV v w w' := by
  obtain ⟨vs, hx, hvs⟩ := hx
  obtain ⟨A, c, rfl, hc1, hc2⟩ := hx.head
  go_enter Try.func36, Try.ntmps36
  go_wp2
  go_loopw [0, 9] (fun u i wr => ∃ j : Nat, j ≤ ms.length ∧ i = .int .i64 j ∧ Ob wr u (l ++ (ms.take j).flatten) ∧ Nx w v u ∧ FrV v w wr) (fun _ i _ => ms.length - (intOf i).toNat)
  case atStart => exact ⟨0, Nat.zero_le _, rfl, by simpa using h, Nx.refl _ _, Fr.refl _ _⟩
  case round =>
    obtain ⟨j, hj, rfl, ho, hn, hf⟩ := hrel
    by_cases hlt : j < ms.length
    · obtain ⟨b, o, rfl, p1, p2, p3⟩ := hx.at_ (by omega)
      have hvl : j < vs.length := by have := hx.1; omega
      have hget : vs[j]? = some vs[j] := List.getElem?_eq_getElem hvl
      have hc := p3 j _ hget
      have hbs := (hvs j _ hget).fr hf (fun b _ hb => hS b hb)
      have hc' : wr.cell? ⟨b, o + j, none⟩ = _ := hf.cell hc (fun hb => p1 (hS b hb))
      have hs := Lib.hid (flat_snoc ms j hlt)
      have hlen : (l ++ (ms.take j).flatten).length + (ms.getD j []).length ≤ 140737488355328 := by rw [List.length_append]; have := flat_le ms j hlt; omega
      generalize ms.getD j [] = y at *
      generalize vs[j] = u at *
      clear hget
      obtain ⟨A2, c2, rfl, -⟩ := id hbs
      go_wp2_with (at_builtin; refine wpList_appB rfl (.tmp 13) (.tmp 14) rfl rfl ho rfl hbs hlen ?_; intro v' w1 ho1 hn1 hf1)
      go_roundw
      case rel => exact ⟨j + 1, by omega, by go_num, by rw [hs.out, ← List.append_assoc]; exact ho1, hn.trans hn1 hf.size, hf.step hn hf1⟩
      case measure => simp [intOf]; omega
    · obtain rfl : j = ms.length := by omega
      go_wp2
      go_ret
      exact ⟨_, rfl, by rw [List.take_length] at ho; exact ho, hn, hf⟩

set_option maxHeartbeats 800000 in
theorem RPut_any {w : World} {v : Value} {l : List Int} (h : Ob w v l) (n : Int) (h0 : 0 ≤ n) (h1 : n < 4294967296) (k : Nat) (hk : k ≤ 4) (hl : l.length + k ≤ 140737488355328) :
    Calls Try.prog 35 #[v, .int .u32 n, .int .i64 k] w fun e w' => ∃ v', e = .returned v' ∧ Ob w' v' (l ++ putL n k) ∧ Nx w v v' ∧ FrV v w w' := by
  go_enter Try.func35, Try.ntmps35
  go_wp2
  go_loopw [0, 7] (fun u x wr => ∃ (m : Nat) (p : List Int), m ≤ k ∧ x = .int .i64 ((m : Int) - 1) ∧ Hid (p ++ putL n m = putL n k) ∧ Ob wr u (l ++ p) ∧ Nx w v u ∧ FrV v w wr) (fun _ x _ => (intOf x + 1).toNat)
  case atStart => exact ⟨k, [], Nat.le_refl _, rfl, Lib.hid rfl, by simpa using h, Nx.refl _ _, Fr.refl _ _⟩
  case round =>
    obtain ⟨m, p, hm, rfl, hp, ho, hn, hf⟩ := hrel
    cases m with
    | zero =>
      go_wp2
      go_ret
      refine ⟨_, rfl, ?_, hn, hf⟩
      have := hp.out
      simp only [putL, List.append_nil] at this
      rw [← this]; exact ho
    | succ m =>
      have hpl : p.length + (m + 1) = k := by have := congrArg List.length hp.out; simpa [putL_length] using this
      have hx0 : 0 ≤ n / 2 ^ (8 * m) % 256 ∧ n / 2 ^ (8 * m) % 256 < 256 := by omega
      rw [show (((m + 1 : Nat) : Int) - 1) = m from by omega]
      go_wp2_with (at_builtin; refine wpList_app1 rfl (.tmp 14) (.tmp 21) rfl rfl ho rfl hx0.1 hx0.2 (by simp; omega) ?_; intro v' w1 ho1 hn1 hf1)
      go_roundw
      case rel => exact ⟨m, p ++ [n / 2 ^ (8 * m) % 256], by omega, rfl, Lib.hid (by rw [List.append_assoc]; exact hp.out), by rw [← List.append_assoc]; exact ho1, hn.trans hn1 hf.size, hf.step hn hf1⟩
      case measure => simp [intOf]
end Go.Proofs.Ytgfhhnmhpncnlaa
