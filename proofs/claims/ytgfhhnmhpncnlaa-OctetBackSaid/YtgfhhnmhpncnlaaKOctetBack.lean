/-
  OctetBack's walk: it returns true. No condition.
-/
import Derived.Test.YtgfhhnmhpncnlaaO
import Derived.Test.YtgfhhnmhpncnlaaH
namespace Go.Proofs.Ytgfhhnmhpncnlaa
open Go.RowKit
set_option linter.unusedVariables false
set_option linter.unusedSimpArgs false

theorem Fr.toBelow {S : Nat → Prop} {B : Nat} {w0 w w' : World} (h : Fr S w w') (hS : ∀ b, S b → B ≤ b) (hs : w0.heap.size ≤ w.heap.size) (hB : B = w0.heap.size := by rfl) : Below B w w' :=
  ⟨h.os, h.tape, h.output, h.size, fun k hk => h.block k (by omega) (fun hb => by have := hS k hb; omega)⟩
theorem pw_below_drewN' {B : Nat} {w W : World} (h : Below B w W) (n : Nat) : Below B w (W.drewN n) := ⟨h.os, h.tape, h.output, h.size, h.block⟩
theorem bytes_mid (pre mid post : List Int) {L : List Int} (hL : L = pre ++ mid ++ post) {a k : Nat} (ha : a = pre.length) (hk : k = mid.length) :
    (⟨L, a, 0, 0⟩ : Rd).bytes (k : Int) = (mid, ⟨L, a + k, 0, 0⟩) := by
  subst hL ha hk
  unfold Rd.bytes
  have h1 : ¬ ((mid.length : Int) < 0) := by omega
  have h2 : ¬ ((mid.length : Int) > ((⟨pre ++ mid ++ post, pre.length, 0, 0⟩ : Rd).left : Int)) := by
    simp only [Rd.left, List.length_append]; omega
  rw [if_neg (by simp), if_neg h1, if_neg h2]
  simp [List.append_assoc]
theorem be_one (y : Int) (h : 0 ≤ y ∧ y < 256) : be [y] % 256 = y := by simp [be, beStep]; omega
theorem be_two (y : Int) (h : 0 ≤ y ∧ y < 65536) : be (putL y 2) % 65536 = y := by simp [be, beStep, putL]; omega
theorem be_four (y : Int) (h : 0 ≤ y ∧ y < 4294967296) : be (putL y 4) = y := by simp [be, beStep, putL]; omega
theorem putAll_split (k : Nat) (l : List Int) (j : Nat) (h : j < l.length) : putAll k l = putAll k (l.take j) ++ putL (l.getD j 0) k ++ putAll k (l.drop (j + 1)) := by
  rw [← putAll_snoc k l j h]
  unfold putAll
  rw [← List.flatMap_append, List.take_append_drop]
theorem split_at (l : List Int) (j : Nat) (h : j < l.length) : l = l.take j ++ [l.getD j 0] ++ l.drop (j + 1) := by
  rw [List.getD_eq_getElem?_getD, List.getElem?_eq_getElem h]
  simp [List.append_assoc]

set_option maxHeartbeats 3200000 in
theorem OctetBack_main {w : World} {v0 v1 v2 : Value} {l0 l1 l2 : List Int} (h0 : Bs w (fun _ => False) v0 l0) (h0' : Row w (fun _ => False) 1 v0 l0.length (nums .u8 l0)) (h1 : Row w (fun _ => False) 1 v1 l1.length (nums .u16 l1)) (h2 : Row w (fun _ => False) 1 v2 l2.length (nums .u32 l2))
    (n0 : isB l0) (n1 : isN 65536 l1) (n2 : isN 4294967296 l2) (b0 : l0.length ≤ 60) (b1 : l1.length ≤ 60) (b2 : l2.length ≤ 60) :
    Calls Try.prog 4 #[v0, v1, v2] w fun e w' => e = .returned (.bool true) ∧ Below w.heap.size w w' := by
  obtain ⟨A0, c0, rfl, -⟩ := id h0
  obtain ⟨A1, c1, rfl, -⟩ := h1.head
  obtain ⟨A2, c2, rfl, -⟩ := h2.head
  have d0' : decide (60 < l0.length) = false := by simp; omega
  have d1' : decide (60 < l1.length) = false := by simp; omega
  have d2' : decide (60 < l2.length) = false := by simp; omega
  have g0 := h0'.out
  have g1 := h1.out
  have g2 := h2.out
  have lp1 := putAll_length 2 l1
  have lp2 := putAll_length 4 l2
  go_enter Try.func4, Try.ntmps4
  go_wp2_with (first
    | (go_at_call 34; refine (Put8_any (Ob.nil _) h0 (by simp; omega)).mono ?_; rintro e w1 ⟨x1, rfl, o1, nx1, fr1⟩; have bl1 := fr1.belowB (Lo.nil w.heap.size) (Nat.le_refl _); have lo1 := (Lo.nil w.heap.size).next nx1 (Nat.le_refl _))
    | (go_at_call 33; refine (Put16_any o1 (g1.later bl1) (fun b hb => lo1 b hb) n1 (by simp; omega)).mono ?_; rintro e w2 ⟨x2, rfl, o2, nx2, fr2⟩; have bl2 := bl1.trans (fr2.belowB lo1 bl1.size); have lo2 := lo1.next nx2 bl1.size)
    | (go_at_call 32; refine (Put32_any o2 (g2.later bl2) (fun b hb => lo2 b hb) n2 (by simp; omega)).mono ?_; rintro e w3 ⟨x3, rfl, o3, nx3, fr3⟩; have bl3 := bl2.trans (fr3.belowB lo2 bl2.size))
    | (go_at_call 14; refine (New_any o3.old (by simp; omega)).mono ?_; rintro e w4 ⟨g, x4, rfl, hg, hr, hq, fr4⟩; have bl4 := bl3.trans ((fr4.below (fun _ h => h.elim)).mono bl3.size)))
  have hge : w.heap.size ≤ g := Nat.le_trans bl3.size hg
  clear o1 o2 o3 nx1 nx2 nx3 fr1 fr2 fr3 fr4 lo1 lo2 hq hg h0 h0' h1 h2 bl1 bl2 bl3
  rw [List.nil_append] at hr
  obtain ⟨L, hL⟩ : ∃ L, L = l0 ++ putAll 2 l1 ++ putAll 4 l2 := ⟨_, rfl⟩
  rw [← hL] at hr
  have hlen : L.length = l0.length + l1.length * 2 + l2.length * 4 := by rw [hL]; simp only [List.length_append, lp1, lp2]
  have HL := Lib.hid hL
  clear hL lp1 lp2
  go_loopw [8] (fun i wr => ∃ j : Nat, j ≤ l0.length ∧ i = .int .i64 j ∧ RdAt wr g x4 ⟨L, j, 0, 0⟩ ∧ Below w.heap.size w wr) (fun i _ => l0.length - (intOf i).toNat)
  case atStart => exact ⟨0, Nat.zero_le _, rfl, hr, bl4⟩
  case round =>
    obtain ⟨j, hj, rfl, hr, bl⟩ := hrel
    by_cases hlt : j < l0.length
    · obtain ⟨b, o, rfl, p1, p2, p3⟩ := (g0.later bl).at_ (by omega)
      have hc := p3 j _ (nums_at .u8 l0 hlt)
      have hv := be_one _ (n0 _ (getD_mem hlt))
      have hb := bytes_mid (l0.take j) [l0.getD j 0] (l0.drop (j + 1) ++ putAll 2 l1 ++ putAll 4 l2) (L := L) (HL.out.trans ((congrArg (fun z => z ++ putAll 2 l1 ++ putAll 4 l2) (split_at l0 j hlt)).trans (by simp [List.append_assoc]))) (a := j) (by simp; omega) (k := 1) rfl
      have hrd : RdAt wr.drew g x4 ⟨L, j, 0, 0⟩ := hr.drewN 1
      have H := U8_any hrd (by simp only; omega) hb
      rw [hv] at H
      clear hb hv
      generalize l0.getD j 0 = y at *
      go_wp2
      go_region_held3 (fun W => W.cell? ⟨b, o + j, none⟩ = some (.int .u8 y)) (first | exact hc | exact hf1.cell hc (fun h => by have h' : b = g := h; have p1' : ¬ (w.heap.size ≤ b) := p1; omega))
        (first | (go_at_call 16; refine H.mono ?_; rintro e w5 ⟨rfl, hr5, hf1⟩))
      go_wp2
      go_roundw
      case rel => exact ⟨j + 1, by omega, by go_num, hr5, (Below.drew bl).trans (Fr.toBelow (w0 := w) (w := wr.drew) hf1 (fun b h => by subst h; exact hge) bl.size)⟩
      case measure => simp [intOf]; omega
    · obtain rfl : j = l0.length := by omega
      go_wp2
      go_loopw [9] (fun i wr => ∃ j : Nat, j ≤ l1.length ∧ i = .int .i64 j ∧ RdAt wr g x4 ⟨L, l0.length + j * 2, 0, 0⟩ ∧ Below w.heap.size w wr) (fun i _ => l1.length - (intOf i).toNat)
      case atStart => exact ⟨0, Nat.zero_le _, rfl, by simpa using hr, bl⟩
      case round =>
        obtain ⟨j, hj, rfl, hr, bl⟩ := hrel
        by_cases hlt : j < l1.length
        · obtain ⟨b, o, rfl, p1, p2, p3⟩ := (g1.later bl).at_ (by omega)
          have hc := p3 j _ (nums_at .u16 l1 hlt)
          have hv := be_two _ (n1 _ (getD_mem hlt))
          have hb := bytes_mid (l0 ++ putAll 2 (l1.take j)) (putL (l1.getD j 0) 2) (putAll 2 (l1.drop (j + 1)) ++ putAll 4 l2) (L := L) (by rw [HL.out, putAll_split 2 l1 j hlt]; simp [List.append_assoc]) (a := l0.length + j * 2) (by rw [List.length_append, putAll_length, List.length_take]; omega) (k := 2) (by rw [putL_length])
          have hrd : RdAt wr.drew g x4 ⟨L, l0.length + j * 2, 0, 0⟩ := hr.drewN 1
          have H := U16_any hrd (by simp only; omega) hb
          rw [hv] at H
          clear hb hv
          generalize l1.getD j 0 = y at *
          go_wp2
          go_region_held3 (fun W => W.cell? ⟨b, o + j, none⟩ = some (.int .u16 y)) (first | exact hc | exact hf1.cell hc (fun h => by have h' : b = g := h; have p1' : ¬ (w.heap.size ≤ b) := p1; omega))
            (first | (go_at_call 18; refine H.mono ?_; rintro e w5 ⟨rfl, hr5, hf1⟩))
          go_wp2
          go_roundw
          case rel => exact ⟨j + 1, by omega, by go_num, by rw [show l0.length + (j + 1) * 2 = l0.length + j * 2 + 2 from by omega]; exact hr5, (Below.drew bl).trans (Fr.toBelow (w0 := w) (w := wr.drew) hf1 (fun b h => by subst h; exact hge) bl.size)⟩
          case measure => simp [intOf]; omega
        · obtain rfl : j = l1.length := by omega
          go_wp2
          go_loopw [10] (fun i wr => ∃ j : Nat, j ≤ l2.length ∧ i = .int .i64 j ∧ RdAt wr g x4 ⟨L, l0.length + l1.length * 2 + j * 4, 0, 0⟩ ∧ Below w.heap.size w wr) (fun i _ => l2.length - (intOf i).toNat)
          case atStart => exact ⟨0, Nat.zero_le _, rfl, by simpa using hr, bl⟩
          case round =>
            obtain ⟨j, hj, rfl, hr, bl⟩ := hrel
            by_cases hlt : j < l2.length
            · obtain ⟨b, o, rfl, p1, p2, p3⟩ := (g2.later bl).at_ (by omega)
              have hc := p3 j _ (nums_at .u32 l2 hlt)
              have hv := be_four _ (n2 _ (getD_mem hlt))
              have hb := bytes_mid (l0 ++ putAll 2 l1 ++ putAll 4 (l2.take j)) (putL (l2.getD j 0) 4) (putAll 4 (l2.drop (j + 1))) (L := L) (HL.out.trans ((congrArg (fun z => l0 ++ putAll 2 l1 ++ z) (putAll_split 4 l2 j hlt)).trans (by simp [List.append_assoc]))) (a := l0.length + l1.length * 2 + j * 4) (by simp only [List.length_append, putAll_length, List.length_take]; omega) (k := 4) (by rw [putL_length])
              have hrd : RdAt wr.drew g x4 ⟨L, l0.length + l1.length * 2 + j * 4, 0, 0⟩ := hr.drewN 1
              have H := U32_any hrd (by simp only; omega) hb
              rw [hv] at H
              clear hb hv
              generalize l2.getD j 0 = y at *
              go_wp2
              go_region_held3 (fun W => W.cell? ⟨b, o + j, none⟩ = some (.int .u32 y)) (first | exact hc | exact hf1.cell hc (fun h => by have h' : b = g := h; have p1' : ¬ (w.heap.size ≤ b) := p1; omega))
                (first | (go_at_call 19; refine H.mono ?_; rintro e w5 ⟨rfl, hr5, hf1⟩))
              go_wp2
              go_roundw
              case rel => exact ⟨j + 1, by omega, by go_num, by rw [show l0.length + l1.length * 2 + (j + 1) * 4 = l0.length + l1.length * 2 + j * 4 + 4 from by omega]; exact hr5, (Below.drew bl).trans (Fr.toBelow (w0 := w) (w := wr.drew) hf1 (fun b h => by subst h; exact hge) bl.size)⟩
              case measure => simp [intOf]; omega
            · obtain rfl : j = l2.length := by omega
              have hdn : (⟨L, l0.length + l1.length * 2 + l2.length * 4, 0, 0⟩ : Rd).done = 0 := by unfold Rd.done; rw [if_pos (.inr hlen.symm)]
              have HD := Done_any hr
              rw [hdn] at HD
              clear hdn
              go_wp2_with (first
                | (go_at_call 30; refine HD.mono ?_; rintro e w6 ⟨rfl, n6, rfl⟩)
                | (go_at_call 27; refine (num_any _ _).mono ?_; rintro e w7 ⟨rfl, rfl⟩)
                | (go_at_call 13; refine (live_any _).mono ?_; rintro e w8 ⟨rfl, hf8⟩))
              go_ret
              exact ⟨rfl, (pw_below_drewN' bl n6).trans ((hf8.below (fun _ h => h.elim)).mono bl.size)⟩

set_option maxHeartbeats 800000 in
theorem OctetBack_walk (v0 : Value) (l0 : List Int) (v1 : Value) (l1 : List Int) (v2 : Value) (l2 : List Int) {w : World}
    (h0 : Row w (fun _ => False) 1 v0 l0.length (nums .u8 l0)) (f0 : ∀ x ∈ l0, (Lit.int .u8 x).wf = true) (y0 : l0.length * 1 ≤ 140737488351232)
    (h1 : Row w (fun _ => False) 1 v1 l1.length (nums .u16 l1)) (f1 : ∀ x ∈ l1, (Lit.int .u16 x).wf = true) (y1 : l1.length * 2 ≤ 140737488351232)
    (h2 : Row w (fun _ => False) 1 v2 l2.length (nums .u32 l2)) (f2 : ∀ x ∈ l2, (Lit.int .u32 x).wf = true) (y2 : l2.length * 4 ≤ 140737488351232) (w' : World) (hw : w' = w) :
    Calls Try.prog 4 #[v0, v1, v2] w' fun e w' => e = .returned (.bool true) ∧ Below w.heap.size w w' := by
  subst hw
  by_cases c : l0.length ≤ 60 ∧ l1.length ≤ 60 ∧ l2.length ≤ 60
  · exact OctetBack_main (bs_of_row h0 f0) h0 h1 h2 (fun x hx => by have := bounds_u8 (f0 x hx); omega) (isN_u16 f1) (isN_u32 f2) c.1 c.2.1 c.2.2
  · obtain ⟨A0, c0, rfl, -⟩ := h0.head
    obtain ⟨A1, c1, rfl, -⟩ := h1.head
    obtain ⟨A2, c2, rfl, -⟩ := h2.head
    clear h0 h1 h2 f0 f1 f2
    by_cases d0 : 60 < l0.length
    · have e0 : decide (60 < l0.length) = true := by simp; omega
      go_enter Try.func4, Try.ntmps4
      go_wp2_with (go_at_call 13; refine (live_any _).mono ?_; rintro e w1 ⟨rfl, hf⟩)
      go_ret
      exact ⟨rfl, hf.below (fun _ h => h.elim)⟩
    · have e0 : decide (60 < l0.length) = false := by simp; omega
      by_cases d1 : 60 < l1.length
      · have e1 : decide (60 < l1.length) = true := by simp; omega
        go_enter Try.func4, Try.ntmps4
        go_wp2_with (go_at_call 13; refine (live_any _).mono ?_; rintro e w1 ⟨rfl, hf⟩)
        go_ret
        exact ⟨rfl, hf.below (fun _ h => h.elim)⟩
      · have e1 : decide (60 < l1.length) = false := by simp; omega
        have e2 : decide (60 < l2.length) = true := by simp; omega
        go_enter Try.func4, Try.ntmps4
        go_wp2_with (go_at_call 13; refine (live_any _).mono ?_; rintro e w1 ⟨rfl, hf⟩)
        go_ret
        exact ⟨rfl, hf.below (fun _ h => h.elim)⟩
end Go.Proofs.Ytgfhhnmhpncnlaa
