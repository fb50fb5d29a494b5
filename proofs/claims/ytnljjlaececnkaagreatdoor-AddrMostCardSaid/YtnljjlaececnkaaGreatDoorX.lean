/-
  Print, the groups' side: join of a row of groups. Condition: the variables hold what their initialisers laid.
-/
import Derived.Test.YtnljjlaececnkaaGreatDoorW
namespace Go.Proofs.YtnljjlaececnkaaGreatDoor
open Go.RowKit
set_option linter.unusedVariables false
set_option linter.unusedSimpArgs false
theorem Tryz.info9 : (Tryz.prog.info? 9).map (fun i => (i.zero, i.size, i.bytes)) = some (some (.string ⟨#[]⟩), 1, 16) := by kernel_rfl
theorem hexT_len : ∀ (k u : Nat), u < 16 ^ (k + 1) → (hexT u).length ≤ k + 1
  | 0, u, h => by rw [hexT_small (by simpa using h)]; simp
  | k + 1, u, h => by
    by_cases h16 : u < 16
    · rw [hexT_small h16]; simp
    · rw [hexT_big h16]
      have := hexT_len k (u / 16) (by rw [Nat.pow_succ] at h; exact Nat.div_lt_of_lt_mul (by omega))
      simp; omega
/-- The texts of groups. -/
def hexB (u : Nat) : ByteArray := ⟨(hexT u).toArray⟩
/-- join. -/
def joinS (l : List Nat) : List UInt8 := Lib.join (l.map hexT) [58]
theorem joinTail_len (l : List Nat) (h : ∀ u ∈ l, u < 65536) : (Lib.joinTail [58] (l.map hexT)).length ≤ 5 * l.length := by
  induction l with
  | nil => simp [Lib.joinTail]
  | cons u l ih =>
    have h1 := hexT_len 3 u (by have := h u (by simp); omega)
    have h2 := ih (fun v hv => h v (by simp [hv]))
    simp [Lib.joinTail] at h2 ⊢; omega
theorem join_len (l : List Nat) (h : ∀ u ∈ l, u < 65536) : (joinS l).length ≤ 5 * l.length := by
  cases l with
  | nil => simp [joinS, Lib.join]
  | cons u l =>
    have h1 := hexT_len 3 u (by have := h u (by simp); omega)
    have h2 := joinTail_len l (fun v hv => h v (by simp [hv]))
    unfold joinS; rw [List.map_cons, Lib.join_cons, List.length_append, List.length_cons]; omega
def colonV : Value := .string ⟨#[58]⟩
/-- A row of groups. -/
def u16s (l : List Nat) : List Value := l.map fun (u : Nat) => .int .u16 (u : Int)
def hexVs (l : List Nat) : List Value := l.map fun (u : Nat) => .string ⟨(hexT u).toArray⟩
set_option maxRecDepth 100000 in
set_option maxHeartbeats 800000 in
theorem join_any {w : World} (E : Env w) {l : List Nat} (hl8 : l.length ≤ 8) (hu : ∀ u ∈ l, u < 65536) {v : Value} (hr : Row w (fun b => w.heap.size ≤ b) 1 v l.length (u16s l)) : Calls Tryz.prog 164 #[v] w fun e w' => e = .returned (.string ⟨(joinS l).toArray⟩) ∧ Below w.heap.size w w' := by
  obtain ⟨h0, A, c, rfl, q1, q2, q3, q5⟩ := id hr
  replace hr := Lib.hid hr
  clear q5
  go_enter Tryz.func164, Tryz.ntmps164
  go_wp2
  go_loopw [3, 8] (fun xs xi wr => ∃ j : Nat, xi = .int .i64 j ∧ j ≤ l.length ∧ wr.ownsRow 0 9 1 xs j (hexVs (l.take j)) ∧ Lo w.heap.size xs ∧ Below w.heap.size w wr) (fun xs xi wr => l.length - (intOf xi).toNat)
  case atStart => exact ⟨0, rfl, by omega, by simpa [hexVs] using own_nil _ _ _, fun b h => by simp [Value.ownBlock] at h, Below.refl _ _⟩
  case round =>
    obtain ⟨j, rfl, hj, ho, lo, bel⟩ := hrel
    by_cases hlt : j < l.length
    · obtain ⟨u, hget⟩ := get_some hlt
      obtain ⟨b, o, rfl, -, -, -⟩ := hr.out.at_ (by omega)
      have hc := (hr.out.later bel).cells (show (u16s l)[j]? = some (.int .u16 (u : Int)) by simp [u16s, hget])
      have hul := hu u (List.mem_of_getElem? hget)
      go_wp2_with (first | (go_at_call 121; refine (hex_any (E.go bel).2 hul).mono ?_; rintro e w1 ⟨rfl, bel1⟩) | (at_builtin; refine wpList_app1 rfl (.tmp 12) (.tmp 16) 23 rfl Tryz.underlying23 Tryz.info9 rfl (by decide) (by decide) [.string ⟨(hexT u).toArray⟩] rfl (by intro z hz; simp at hz; subst hz; rfl) rfl (own_below ho bel1 (own_lt ho)) rfl (by omega) ?_; intro v' w2 ho2 hn2 hf2))
      have bel2 := bel.trans (bel1.mono bel.size)
      have ht : hexVs (l.take (j + 1)) = hexVs (l.take j) ++ [.string ⟨(hexT u).toArray⟩] := by simp [hexVs, List.take_add_one, hget]
      refine ⟨⟨j + 1, rfl, by omega, by rw [ht]; exact ho2, lo.next hn2 bel2.size, bel2.trans (hf2.belowB lo bel2.size)⟩, ?_⟩
      simp [intOf]; omega
    · obtain rfl : j = l.length := by omega
      rw [List.take_length] at ho
      obtain ⟨A, c2, rfl, hc1, hc2⟩ := own_slice ho
      rcases Nat.eq_zero_or_pos l.length with h0 | h0
      · obtain rfl : l = [] := List.eq_nil_of_length_eq_zero h0
        go_wp2_with (first | (go_at_call 114; refine (Tryz.strings_Join_none _ _ _ _).mono ?_; rintro e w1 ⟨rfl, rfl⟩))
        go_ret
        exact ⟨rfl, bel⟩
      · obtain ⟨k, rfl, -, hk, hcell, -, -⟩ := own_at ho h0
        have hjm : Lib.join ((l.map hexB).map (·.data.toList)) [58] = joinS l := by unfold joinS; rw [List.map_map]; rfl
        have hjoin := Tryz.strings_Join k 0 c2 (l.map hexB) ⟨#[58]⟩ wr (fun j x hj => by
          rw [List.getElem?_map] at hj
          cases hg : l[j]? with
          | none => rw [hg] at hj; cases hj
          | some u =>
            rw [hg] at hj
            obtain rfl := Option.some.inj hj
            have := hcell j (.string ⟨(hexT u).toArray⟩) (by simp [hexVs, hg])
            simpa [hexB] using this) hk (by simp; omega) (by simpa using hc1) (by rw [hjm]; have := join_len l hu; omega)
        go_wp2_with (first | (go_at_call 114; rw [← List.length_map (f := hexB)]; refine hjoin.mono ?_; rintro e w1 ⟨rfl, bel1⟩))
        go_ret
        exact ⟨by rw [List.map_map] at hjm; rw [← hjm]; rfl, bel.trans (bel1.mono bel.size)⟩
end Go.Proofs.YtnljjlaececnkaaGreatDoor
