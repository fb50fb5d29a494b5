/-
  OctetPlaces' walk: it returns true. No condition.
-/
import Derived.Test.YtgfhhnmhpncnlaaO
import Derived.Test.YtgfhhnmhpncnlaaH
namespace Go.Proofs.Ytgfhhnmhpncnlaa
open Go.RowKit
set_option linter.unusedVariables false
set_option linter.unusedSimpArgs false

theorem Fr.toBelow' {S : Nat → Prop} {B : Nat} {w0 w w' : World} (h : Fr S w w') (hS : ∀ b, S b → B ≤ b) (hs : w0.heap.size ≤ w.heap.size) (hB : B = w0.heap.size := by rfl) : Below B w w' :=
  ⟨h.os, h.tape, h.output, h.size, fun k hk => h.block k (by omega) (fun hb => by have := hS k hb; omega)⟩
theorem Below.drewN' {B : Nat} {w W : World} (h : Below B w W) (n : Nat) : Below B w (W.drewN n) := ⟨h.os, h.tape, h.output, h.size, h.block⟩
theorem bytes_rest (p : List Int) (a : Nat) (s : Int) (ha : a ≤ p.length) : (⟨p, a, 0, s⟩ : Rd).bytes ((p.length : Int) - a) = (p.drop a, ⟨p, p.length, 0, s⟩) := by
  unfold Rd.bytes
  have h1 : ¬ ((p.length : Int) - a < 0) := by omega
  have h2 : ¬ ((p.length : Int) - a > ((⟨p, a, 0, s⟩ : Rd).left : Int)) := by simp only [Rd.left]; omega
  have h3 : ((p.length : Int) - a).toNat = p.length - a := by omega
  rw [if_neg (by simp), if_neg h1, if_neg h2, h3]
  refine Prod.ext ?_ ?_
  · simp only; rw [List.take_of_length_le (by simp)]
  · simp only; congr 1; omega
theorem bytes_bad (p : List Int) (a : Nat) (e s n : Int) (he : e ≠ 0) : (⟨p, a, e, s⟩ : Rd).bytes n = ([], ⟨p, a, e, s⟩) := by
  unfold Rd.bytes; rw [if_pos he]
theorem conv_strN {w : World} {S : Nat → Prop} {v : Value} {l : List Int} (h : Bs w S v l) (n : Nat) : (convert 22 9 v).run Try.prog (w.drewN n) = .ok (.string (strOfNums l)) (w.drewN n) :=
  conv_str (h.fr (S' := fun _ => False) ((Fr.refl _ w).drewN n) (fun _ _ h => h.elim))
theorem bl8 {w wr w8 : World} {g : Nat} (bl : Below w.heap.size w wr) {n : Nat} (fr : Fr (fun b => b = g) (wr.drewN n) w8) (_n : Nat) (hg : w.heap.size ≤ g) : Below w.heap.size w w8 :=
  (Below.drewN' bl n).trans (Fr.toBelow' (w0 := w) fr (fun b h => by subst h; exact hg) bl.size)
/-- A reader on p whose error, if any, is none of nothing. -/
theorem bytes_facts (p : List Int) (a : Nat) (e s n : Int) (ha : a ≤ p.length) {l : List Int} {r' : Rd} (h : (⟨p, a, e, s⟩ : Rd).bytes n = (l, r')) :
    r'.p = p ∧ r'.at_ = a + l.length ∧ r'.at_ ≤ p.length ∧ (r'.err = 0 → (l.length : Int) = n) ∧ p.take r'.at_ = p.take a ++ l := by
  unfold Rd.bytes at h
  by_cases h1 : e = 0
  · rw [if_neg (by simp [h1])] at h
    by_cases h2 : n < 0
    · rw [if_pos h2] at h
      cases h; simp only [Rd.fail]; split <;> simp_all
    · rw [if_neg h2] at h
      by_cases h3 : n > (((⟨p, a, e, s⟩ : Rd).left : Nat) : Int)
      · rw [if_pos h3] at h
        cases h; simp only [Rd.fail]; split <;> simp_all
      · rw [if_neg h3] at h
        cases h
        simp only [Rd.left] at h3
        have hl : ((p.drop a).take n.toNat).length = n.toNat := by simp; omega
        refine ⟨rfl, by simp only [hl], by simp only; omega, fun _ => by rw [hl]; omega, ?_⟩
        simp only
        rw [List.take_add]
  · rw [if_pos h1] at h
    cases h; simp_all

set_option maxRecDepth 100000 in
set_option maxHeartbeats 3200000 in
theorem OctetPlaces_main {w : World} {v0 v1 : Value} {p l : List Int} (h0 : Bs w (fun _ => False) v0 p) (h1 : Row w (fun _ => False) 1 v1 l.length (nums .i64 l))
    (b0 : p.length ≤ 20000) (b1 : l.length ≤ 60) :
    Calls Try.prog 6 #[v0, v1] w fun e w' => e = .returned (.bool true) ∧ Below w.heap.size w w' := by
  obtain ⟨A0, c0, rfl, -⟩ := id h0
  obtain ⟨A1, c1, rfl, -⟩ := h1.head
  have d0' : decide (20000 < p.length) = false := by simp; omega
  have d1' : decide (60 < l.length) = false := by simp; omega
  have g0 := h0.out
  have g1 := h1.out
  go_enter Try.func6, Try.ntmps6
  go_wp2_with (first
    | (go_at_call 14; refine (New_any h0 (by omega)).mono ?_; rintro e w4 ⟨g, x4, rfl, hg, hr, hq, fr4⟩; have bl4 : Below w.heap.size w w4 := fr4.below (fun _ h => h.elim)))
  clear h0 h1 hq fr4
  go_loopw [6, 7] (fun s i wr => ∃ (j a : Nat) (er sp : Int), j ≤ l.length ∧ i = .int .i64 j ∧ s = .string (strOfNums (p.take a)) ∧ a ≤ p.length ∧ RdAt wr g x4 ⟨p, a, er, sp⟩ ∧ Below w.heap.size w wr) (fun _ i _ => l.length - (intOf i).toNat)
  case atStart => exact ⟨0, 0, 0, 0, Nat.zero_le _, rfl, rfl, Nat.zero_le _, hr, bl4⟩
  case round =>
    obtain ⟨j, a, er, sp, hj, rfl, rfl, hle, hr, bl⟩ := hrel
    by_cases hlt : j < l.length
    · obtain ⟨b, o, rfl, p1, p2, p3⟩ := (g1.later bl).at_ (by omega)
      have hc := p3 j _ (nums_at .i64 l hlt)
      generalize l.getD j 0 = y at *
      obtain ⟨⟨m, r'⟩, hm⟩ : ∃ q, (⟨p, a, er, sp⟩ : Rd).bytes y = q := ⟨_, rfl⟩
      obtain ⟨f1, f2, f3, f4, f5⟩ := bytes_facts p a er sp y hle hm
      have HB := Bytes_any hr y (by simp only; omega)
      rw [hm] at HB
      clear hm
      obtain ⟨pp, a2, er2, sp2⟩ := r'
      simp only at f1 f2 f3 f4 f5
      replace f1 := f1.symm
      subst f1 f2
      have HA := At_any hr
      obtain ⟨k, hk⟩ : ∃ k, k = a + m.length := ⟨_, rfl⟩
      rw [← hk] at HB f3 f5
      have u1 : ((k : Int) + ((p.length : Int) - k) != (p.length : Int)) = false := by simp; omega
      have u2 : ((k : Int) != (a : Int) + (m.length : Int)) = false := by simp; omega
      have hadd := run_str_add (p.take a) m (by simp; omega)
      rw [← f5] at hadd
      have hif : (9223372036854775807 < (strOfNums (p.take a)).size + (strOfNums m).size) = False := eq_false (by rw [strOfNums_size, strOfNums_size]; simp; omega)
      have hif2 : ((strOfNums (p.take a)).size + (strOfNums m).size > 9223372036854775807) = False := eq_false (by rw [strOfNums_size, strOfNums_size]; simp; omega)
      have e1 : strOfNums (p.take a) ++ strOfNums m = strOfNums (p.take k) := by rw [str_append, ← f5]
      clear f5
      have Hk := Lib.hid hk
      clear hk
      have hml : (m.length : Int) ≤ 20000 := by have := Hk.out; omega
      have hal : (a : Int) ≤ 20000 := by omega
      by_cases he2 : er2 = 0
      · have u3 : ((m.length : Int) != y) = false := by have := f4 he2; simp; omega
        subst he2
        clear f4
        go_wp2_with (first
          | (go_at_call 28; with_reducible refine HA.mono ?_; rintro e w5 ⟨rfl, rfl⟩)
          | (go_at_call 20; refine HB.mono ?_; rintro e w6 ⟨v6, rfl, hb6, hr6, fr6⟩; obtain ⟨A6, c6, rfl, -⟩ := id hb6; have hc6 := conv_strN hb6; have bl6 : Below w.heap.size w w6 := bl.trans (Fr.toBelow' fr6 (fun b h => by subst h; exact hg) bl.size); have hcc : w6.cell? ⟨b, o + j, none⟩ = some (.int .i64 y) := fr6.cell hc (fun h => by have h' : b = g := h; have p1' : ¬ (w.heap.size ≤ b) := p1; omega))
          | (go_at_call 26; refine (Why_any hr6).mono ?_; rintro e w7 ⟨rfl, n7, rfl⟩)
          | (go_at_call 28; go_loud (refine (At_any (hr6.drewN _)).mono ?_); rintro e w8 ⟨rfl, rfl⟩)
          | (go_at_call 29; refine (Left_any (hr6.drewN n7)).mono ?_; rintro e w8 ⟨rfl, n8, rfl⟩)
          | (go_at_call 27; refine (num_any _ _).mono ?_; rintro e w9 ⟨rfl, rfl⟩))
        go_roundw
        case rel => exact ⟨j + 1, k, 0, sp2, by omega, by go_num, rfl, f3, hr6.drewN _, Below.drewN' bl6 _⟩
        case measure => simp [intOf]; omega
      · have u4 : (er2 == 0) = false := by simp [he2]
        clear f4 he2
        go_wp2_with (first
          | (go_at_call 28; with_reducible refine HA.mono ?_; rintro e w5 ⟨rfl, rfl⟩)
          | (go_at_call 20; refine HB.mono ?_; rintro e w6 ⟨v6, rfl, hb6, hr6, fr6⟩; obtain ⟨A6, c6, rfl, -⟩ := id hb6; have hc6 := conv_strN hb6; have bl6 : Below w.heap.size w w6 := bl.trans (Fr.toBelow' fr6 (fun b h => by subst h; exact hg) bl.size); have hcc : w6.cell? ⟨b, o + j, none⟩ = some (.int .i64 y) := fr6.cell hc (fun h => by have h' : b = g := h; have p1' : ¬ (w.heap.size ≤ b) := p1; omega))
          | (go_at_call 26; refine (Why_any hr6).mono ?_; rintro e w7 ⟨rfl, n7, rfl⟩)
          | (go_at_call 28; go_loud (refine (At_any (hr6.drewN _)).mono ?_); rintro e w8 ⟨rfl, rfl⟩)
          | (go_at_call 29; refine (Left_any (hr6.drewN n7)).mono ?_; rintro e w8 ⟨rfl, n8, rfl⟩)
          | (go_at_call 27; refine (num_any _ _).mono ?_; rintro e w9 ⟨rfl, rfl⟩))
        go_roundw
        case rel => exact ⟨j + 1, k, er2, sp2, by omega, by go_num, rfl, f3, hr6.drewN _, Below.drewN' bl6 _⟩
        case measure => simp [intOf]; omega
    · obtain rfl : j = l.length := by omega
      clear hlt hj
      obtain ⟨⟨m, r'⟩, hm⟩ : ∃ q, (⟨p, a, er, sp⟩ : Rd).bytes ((p.length : Int) - a) = q := ⟨_, rfl⟩
      have hm0 := hm
      obtain ⟨f1, f2, f3, f4, f5⟩ := bytes_facts p a er sp _ hle hm
      by_cases he : er = 0
      · -- all is read
        subst he
        have hbm := bytes_rest p a sp hle
        have hadd := run_str_add (p.take a) (p.drop a) (by simp; omega)
        rw [List.take_append_drop] at hadd
        have hif : (9223372036854775807 < (strOfNums (p.take a)).size + (strOfNums (p.drop a)).size) = False := eq_false (by rw [strOfNums_size, strOfNums_size]; simp; omega)
        have e1 : strOfNums (p.take a) ++ strOfNums (p.drop a) = strOfNums p := by rw [str_append, List.take_append_drop]
        go_wp2_with (first
          | (go_at_call 26; refine (Why_any hr).mono ?_; rintro e w7 ⟨rfl, n7, rfl⟩)
          | (go_at_call 22; refine (Rest_any (hr.drewN n7) (by simp only; omega)).mono ?_; rintro e w8 ⟨v8, rfl, hb8, hr8, fr8⟩; rw [hbm] at hb8 hr8; have bb8 := bl8 bl fr8 0 hg; obtain ⟨A8, c8, rfl, -⟩ := id hb8; have hc8 := conv_str hb8; rw [List.length_drop] at hc8; have gl8 := conv_str (g0.later bb8))
          | (go_at_call 27; refine (num_any _ _).mono ?_; rintro e w9 ⟨rfl, rfl⟩)
          | (go_at_call 29; refine (Left_any hr8).mono ?_; rintro e w10 ⟨rfl, n10, rfl⟩; rw [show (((⟨p, p.length, 0, sp⟩ : Rd).p.length : Int) - ((⟨p, p.length, 0, sp⟩ : Rd).at_ : Int)) = 0 from by simp])
          | (go_at_call 13; refine (live_any _).mono ?_; rintro e w11 ⟨rfl, hf11⟩))
        go_ret
        exact ⟨rfl, (Below.drewN' bb8 n10).trans ((hf11.below (fun _ h => h.elim)).mono bb8.size)⟩
      · have hbm := bytes_bad p a er sp ((p.length : Int) - a) he
        have hb0 : (er != 0) = true := by simp [he]
        have hcut := cut_take (P := Try.prog) 22 5 .i64 Try.underlying22 Try.info5 A0 p.length c0 a hle g0.nilcap.2.1 g0.nilcap.2.2.2
        have hsz : (strOfNums (p.take a)).size = a := by rw [strOfNums_size]; simp; omega
        clear he
        go_wp2_with (first
          | (go_at_call 26; refine (Why_any hr).mono ?_; rintro e w7 ⟨rfl, n7, rfl⟩)
          | (go_at_call 22; refine (Rest_any (hr.drewN n7) (by simp only; omega)).mono ?_; rintro e w8 ⟨v8, rfl, hb8, hr8, fr8⟩; rw [hbm] at hb8 hr8; have bb8 := bl8 bl fr8 0 hg; obtain ⟨A8, c8, rfl, -⟩ := id hb8; have gl8 := conv_str ((g0.later bb8).take hle))
          | (go_at_call 27; refine (num_any _ _).mono ?_; rintro e w9 ⟨rfl, rfl⟩)
          | (go_at_call 13; refine (live_any _).mono ?_; rintro e w11 ⟨rfl, hf11⟩))
        go_ret
        exact ⟨rfl, bb8.trans ((hf11.below (fun _ h => h.elim)).mono bb8.size)⟩

set_option maxHeartbeats 800000 in
theorem OctetPlaces_walk (v0 : Value) (l0 : List Int) (v1 : Value) (l1 : List Int) {w : World}
    (h0 : Row w (fun _ => False) 1 v0 l0.length (nums .u8 l0)) (f0 : ∀ x ∈ l0, (Lit.int .u8 x).wf = true) (y0 : l0.length * 1 ≤ 140737488351232)
    (h1 : Row w (fun _ => False) 1 v1 l1.length (nums .i64 l1)) (f1 : ∀ x ∈ l1, (Lit.int .i64 x).wf = true) (y1 : l1.length * 8 ≤ 140737488351232) (w' : World) (hw : w' = w) :
    Calls Try.prog 6 #[v0, v1] w' fun e w' => e = .returned (.bool true) ∧ Below w.heap.size w w' := by
  subst hw
  by_cases c : l0.length ≤ 20000 ∧ l1.length ≤ 60
  · exact OctetPlaces_main (bs_of_row h0 f0) h1 c.1 c.2
  · obtain ⟨A0, c0, rfl, -⟩ := h0.head
    obtain ⟨A1, c1, rfl, -⟩ := h1.head
    clear h0 h1 f0 f1
    by_cases d0 : 20000 < l0.length
    · have e0 : decide (20000 < l0.length) = true := by simp; omega
      go_enter Try.func6, Try.ntmps6
      go_wp2_with (go_at_call 13; refine (live_any _).mono ?_; rintro e w1 ⟨rfl, hf⟩)
      go_ret
      exact ⟨rfl, hf.below (fun _ h => h.elim)⟩
    · have e0 : decide (20000 < l0.length) = false := by simp; omega
      have e1 : decide (60 < l1.length) = true := by simp; omega
      go_enter Try.func6, Try.ntmps6
      go_wp2_with (go_at_call 13; refine (live_any _).mono ?_; rintro e w1 ⟨rfl, hf⟩)
      go_ret
      exact ⟨rfl, hf.below (fun _ h => h.elim)⟩
end Go.Proofs.Ytgfhhnmhpncnlaa
