/-
  Packets of pieces: Packet, Open, num. Condition: what comes in is a slice of bytes of less than 2^47.
-/
import Derived.Test.YtgfhhnmhpncnlaaR
namespace Go.Proofs.Ytgfhhnmhpncnlaa
open Go.RowKit
set_option linter.unusedVariables false
set_option linter.unusedSimpArgs false

theorem num5_any (n : Int) (w : World) :
    Calls Try.prog 42 #[.int .i64 n] w fun e w' => e = .returned (.int .i64 n) ∧ w' = w := by
  go_enter Try.func42, Try.ntmps42
  go_wp2
  go_ret
  exact ⟨rfl, rfl⟩

/-- A literal list. -/
theorem Row.lit (w : World) (vs : List Value) (ty : TypeId) (hm : vs.length ≤ 1000) : Row (w.alloc (.cells vs.toArray ty)) (fun b => b < w.heap.size) 1 (.slice (some ⟨w.heap.size, 0, none⟩) vs.length vs.length) vs.length vs := by
  refine ⟨by rw [Nat.mul_one], _, _, rfl, Nat.le_refl _, by unfold maxLen; omega, (fun h => by cases h), fun a ha _ => ?_⟩
  obtain rfl : (⟨w.heap.size, 0, none⟩ : Addr) = a := by injection ha
  refine ⟨_, _, rfl, Nat.lt_irrefl _, by simp, fun j u hj => ?_⟩
  have := new_cells w vs ty _ rfl j u hj
  rwa [Addr.add_lit] at this
/-- The packet of a body. -/
def pkt (l : List Int) : List Int × Int := if 65535 < l.length then ([], 1) else (42 :: 2 :: (putL l.length 2 ++ l), 0)
/-- What a packet holds, what stands behind it. -/
def opn (p : List Int) : List Int × List Int × Int :=
  match p with
  | a :: b :: c :: d :: t => if a ≠ 42 then ([], [], 50) else if b ≠ 2 then ([], [], 51) else if c * 256 + d > t.length then ([], [], 52) else (t.take (c * 256 + d).toNat, t.drop (c * 256 + d).toNat, 0)
  | _ => ([], [], 3)

set_option maxHeartbeats 1600000 in
theorem Packet_any {w : World} {S : Nat → Prop} {x : Value} {l : List Int} (h : Bs w S x l) (hl : l.length ≤ 140737488355000) :
    Calls Try.prog 38 #[x] w fun e w' => ∃ v', e = .returned (.tuple #[v', .int .i64 (pkt l).2]) ∧ Ob w' v' (pkt l).1 ∧ Lo w.heap.size v' ∧ Below w.heap.size w w' := by
  obtain ⟨A, c, rfl, -⟩ := id h
  by_cases hc : 65535 < l.length
  · have e0 : pkt l = ([], 1) := by unfold pkt; rw [if_pos hc]
    rw [e0]
    clear e0
    go_enter Try.func38, Try.ntmps38
    go_wp2
    go_ret2
    exact ⟨_, rfl, Ob.nil _, Lo.nil _, Below.refl _ _⟩
  · have e0 : pkt l = (42 :: 2 :: (putL l.length 2 ++ l), 0) := by unfold pkt; rw [if_neg hc]
    rw [e0]
    clear e0
    have g := h.out
    clear h
    have hn : ((l.length : Int) % 65536) = l.length := by omega
    go_enter Try.func38, Try.ntmps38
    go_wp2_with fail
    have hx : Bs (w.alloc (.cells #[.int .u8 42, .int .u8 2] 5)) (fun _ => False) (.slice (some ⟨w.heap.size, 0, none⟩) 2 2) [42, 2] := (Ob.lit w [42, 2] (by intro x hx; simp at hx; omega) (by decide)).bs (fun _ _ h => h)
    refine (Put8_any (l := []) (m := [42, 2]) (Ob.nil _) hx (by decide)).mono ?_
    rintro e w1 ⟨v1, rfl, o1, n1, f1⟩
    have b1 : Below w.heap.size w w1 := ((Below.refl _ w).alloc (Nat.le_refl _) _).trans ((f1.belowB (Lo.nil _) (Nat.le_refl _)).mono (by simp))
    have l1 : Lo w.heap.size v1 := (Lo.nil _).next n1 (by simp)
    clear hx n1 f1
    go_wp2_with fail
    have hal1 : Fr (fun _ => False) w1 (w1.alloc (.cells #[.int .u16 l.length] 34)) := (Fr.refl _ w1).alloc _
    have hr1 : Row (w1.alloc (.cells #[.int .u16 l.length] 34)) (fun b => b < w1.heap.size) 1 (.slice (some ⟨w1.heap.size, 0, none⟩) 1 1) 1 (nums .u16 [(l.length : Int)]) := Row.lit w1 [.int .u16 l.length] 34 (by simp)
    have hi1 : isN 65536 [(l.length : Int)] := by intro x hx; simp at hx; omega
    have bx1 : Below w.heap.size w (w1.alloc (.cells #[.int .u16 l.length] 34)) := b1.alloc b1.size _
    refine (Put16_any (m := [(l.length : Int)]) (o1.fr hal1 (fun _ _ h => h)) hr1 (fun b hb => o1.lt b hb) hi1 (by simp)).mono ?_
    rintro e w2 ⟨v2, rfl, o2, n2, f2⟩
    have b2 := bx1.trans (f2.belowB l1 bx1.size)
    have l2 := l1.next n2 bx1.size
    have g2 := g.later b2
    clear hr1 hi1 bx1 hal1 f2 n2 o1 b1 l1 hn
    go_wp2_with fail
    have hrb := RowsB.one (S := fun b => w.heap.size ≤ b ∧ b < w2.heap.size) (g2.mono_l rfl (fun b hb => hb.1)) (fun b hb => hb.2)
    have hal2 : Fr (fun _ => False) w2 (w2.alloc (.cells #[.slice A l.length c] 22)) := (Fr.refl _ w2).alloc _
    have b3 := b2.alloc b2.size (.cells #[.slice A l.length c] 22)
    refine (PutBytes_any (o2.fr hal2 (fun _ _ h => h)) hrb (fun b hb => ⟨l2 b hb, o2.lt b hb⟩) (by simp [putAll_length]; omega)).mono ?_
    rintro e w3 ⟨v3, rfl, o3, n3, f3⟩
    have b4 := b3.trans (f3.belowB l2 b3.size)
    have l4 := l2.next n3 b3.size
    have e3 : [] ++ [42, 2] ++ putAll 2 [(l.length : Int)] ++ [l].flatten = 42 :: 2 :: (putL l.length 2 ++ l) := by simp [putAll]
    rw [e3] at o3
    clear hrb hal2 b3 f3 n3 e3 g2 o2
    go_wp2_with fail
    go_ret2
    exact ⟨_, rfl, o3, l4, b4⟩

theorem below_drewN' {B : Nat} {w W : World} (h : Below B w W) (n : Nat) : Below B w (W.drewN n) := ⟨h.os, h.tape, h.output, h.size, h.block⟩
/-- The reader's first three readings. -/
theorem head_short {p : List Int} (h : p.length < 4) : ∃ m0 r1 m1 r2 m2 at_ spot, (Rd.new p).bytes 1 = (m0, r1) ∧ r1.bytes 1 = (m1, r2) ∧ r2.bytes 2 = (m2, ⟨p, at_, 3, spot⟩) ∧ r1.p = p ∧ r2.p = p := by
  match p, h with
  | [], _ => exact ⟨_, _, _, _, _, _, _, rfl, rfl, rfl, rfl, rfl⟩
  | [a], _ => exact ⟨_, _, _, _, _, _, _, rfl, rfl, rfl, rfl, rfl⟩
  | [a, b], _ => exact ⟨_, _, _, _, _, _, _, rfl, rfl, rfl, rfl, rfl⟩
  | [a, b, c], _ => exact ⟨_, _, _, _, _, _, _, rfl, rfl, rfl, rfl, rfl⟩
theorem head_long {p t : List Int} {a b c d : Int} (h : p = a :: b :: c :: d :: t) : (Rd.new p).bytes 1 = ([a], ⟨p, 1, 0, 0⟩) ∧ (⟨p, 1, 0, 0⟩ : Rd).bytes 1 = ([b], ⟨p, 2, 0, 0⟩) ∧ (⟨p, 2, 0, 0⟩ : Rd).bytes 2 = ([c, d], ⟨p, 4, 0, 0⟩) := by
  subst h
  refine ⟨?_, ?_, ?_⟩
  · unfold Rd.bytes Rd.new Rd.left; simp; omega
  · unfold Rd.bytes Rd.left; simp; omega
  · unfold Rd.bytes Rd.left; simp; omega
theorem bytes_ok {p : List Int} {k n : Nat} (h : k + n ≤ p.length) : (⟨p, k, 0, 0⟩ : Rd).bytes n = ((p.drop k).take n, ⟨p, k + n, 0, 0⟩) := by
  unfold Rd.bytes
  rw [if_neg (by simp), if_neg (by omega), if_neg (by simp only [Rd.left]; omega)]
  simp
theorem Fr.belowG {g B : Nat} {w w' : World} (h : Fr (fun b => b = g) w w') (hg : B ≤ g) (hB : B ≤ w.heap.size) : Below B w w' :=
  ⟨h.os, h.tape, h.output, h.size, fun k hk => h.block k (by omega) (fun hb => by omega)⟩

set_option maxHeartbeats 3200000 in
theorem Open_any {w : World} {S : Nat → Prop} {x : Value} {p : List Int} (h : Bs w S x p) (hl : p.length ≤ 140737488355000) :
    Calls Try.prog 40 #[x] w fun e w' => ∃ v1 v2, e = .returned (.tuple #[v1, v2, .int .i64 (opn p).2.2]) ∧ Bs w' (fun b => w'.heap.size ≤ b) v1 (opn p).1 ∧ Bs w' (fun b => w'.heap.size ≤ b) v2 (opn p).2.1 ∧ Below w.heap.size w w' := by
  obtain ⟨A, c, rfl, -⟩ := id h
  have hB := h.news.2.2.2.1
  by_cases hc : p.length < 4
  · have e0 : opn p = ([], [], 3) := by
      match p, hc with
      | [], _ => rfl
      | [a], _ => rfl
      | [a, b], _ => rfl
      | [a, b, c], _ => rfl
    rw [e0]
    clear e0
    obtain ⟨m0, r1, m1, r2, m2, at_, spot, q0, q1, q2, p1, p2⟩ := head_short hc
    have hN := New_any h (by omega)
    have q0 := Lib.hid q0; have q1 := Lib.hid q1; have q2 := Lib.hid q2; have p1 := Lib.hid p1; have p2 := Lib.hid p2
    clear h
    go_enter Try.func40, Try.ntmps40
    go_wp2_with fail
    refine hN.mono ?_
    rintro e w1 ⟨g, xr, rfl, hg, hr, hq, fr⟩
    go_wp2_with fail
    refine (U8_any hr (by show p.length ≤ _; omega) q0.out).mono ?_
    rintro e w2 ⟨rfl, hr2, f2⟩
    go_wp2_with fail
    refine (U8_any hr2 (by rw [p1.out]; omega) q1.out).mono ?_
    rintro e w3 ⟨rfl, hr3, f3⟩
    go_wp2_with fail
    refine (U16_any hr3 (by rw [p2.out]; omega) q2.out).mono ?_
    rintro e w4 ⟨rfl, hr4, f4⟩
    go_wp2_with fail
    refine (Why_any hr4).mono ?_
    rintro e w5 ⟨rfl, n5, rfl⟩
    go_wp2_with fail
    go_ret3
    have b1 := fr.below (fun _ h => h.elim)
    have b2 := b1.trans (f2.belowG hg b1.size)
    have b3 := b2.trans (f3.belowG hg b2.size)
    have b4 := b3.trans (f4.belowG hg b3.size)
    exact ⟨_, _, rfl, (Ob.nil _).old, (Ob.nil _).old, below_drewN' b4 n5⟩
  · obtain ⟨a, b, c2, d, t, hp⟩ : ∃ a b c d t, p = a :: b :: c :: d :: t := by
      match p, hc with
      | [], h => simp at h
      | [a], h => simp at h
      | [a, b], h => simp at h
      | [a, b, c], h => simp at h
      | a :: b :: c :: d :: t, _ => exact ⟨_, _, _, _, _, rfl⟩
    obtain ⟨q0, q1, q2⟩ := head_long hp
    have ha := hB a (by rw [hp]; simp)
    have hb := hB b (by rw [hp]; simp)
    have hc' := hB c2 (by rw [hp]; simp)
    have hd := hB d (by rw [hp]; simp)
    obtain ⟨n, hn⟩ : ∃ n : Nat, c2 * 256 + d = n := ⟨(c2 * 256 + d).toNat, by omega⟩
    have hlt : p.length = 4 + t.length := by rw [hp]; simp; omega
    have e0 : opn p = if a ≠ 42 then ([], [], 50) else if b ≠ 2 then ([], [], 51) else if p.length - 4 < n then ([], [], 52) else ((p.drop 4).take n, p.drop (4 + n), 0) := by
      have ht : t = p.drop 4 := by rw [hp]; rfl
      have hk : ((n : Int) > t.length) = (p.length - 4 < n) := propext ⟨fun h => by omega, fun h => by omega⟩
      have e1 : opn p = if a ≠ 42 then ([], [], 50) else if b ≠ 2 then ([], [], 51) else if c2 * 256 + d > t.length then ([], [], 52) else (t.take (c2 * 256 + d).toNat, t.drop (c2 * 256 + d).toNat, 0) := by rw [hp]; rfl
      rw [e1, hn]
      simp only [hk, Int.toNat_natCast]
      rw [← List.drop_drop, ← ht]
    have v0 : be [a] % 256 = a := by simp [be, beStep]; omega
    have v1 : be [b] % 256 = b := by simp [be, beStep]; omega
    have v2 : be [c2, d] % 65536 = n := by simp [be, beStep]; omega
    have hn2 : n < 65536 := by omega
    clear hlt hn hc' hd hp
    have hN := New_any h (by omega)
    have q0 := Lib.hid q0; have q1 := Lib.hid q1; have q2 := Lib.hid q2; have v0 := Lib.hid v0; have v1 := Lib.hid v1; have v2 := Lib.hid v2; have e0 := Lib.hid e0
    clear h
    have hpl : 4 ≤ p.length := by omega
    go_enter Try.func40, Try.ntmps40
    go_wp2_with fail
    refine hN.mono ?_
    rintro e w1 ⟨g, xr, rfl, hg, hr, hq, fr⟩
    have HU := U8_any hr (by show p.length ≤ _; omega) q0.out
    rw [v0.out] at HU
    go_wp2_with fail
    refine HU.mono ?_
    rintro e w2 ⟨rfl, hr2, f2⟩
    have HU := U8_any hr2 (by show p.length ≤ _; omega) q1.out
    rw [v1.out] at HU
    go_wp2_with fail
    refine HU.mono ?_
    rintro e w3 ⟨rfl, hr3, f3⟩
    have HU := U16_any hr3 (by show p.length ≤ _; omega) q2.out
    rw [v2.out] at HU
    go_wp2_with fail
    refine HU.mono ?_
    rintro e w4 ⟨rfl, hr4, f4⟩
    go_wp2_with fail
    refine (Why_any hr4).mono ?_
    rintro e w5 ⟨rfl, n5, rfl⟩
    have b1 := fr.below (fun _ h => h.elim)
    have b2 := b1.trans (f2.belowG hg b1.size)
    have b3 := b2.trans (f3.belowG hg b2.size)
    have b4 := below_drewN' (b3.trans (f4.belowG hg b3.size)) n5
    have hr5 := hr4.drewN n5
    clear hr hr2 hr3 hr4 f2 f3 f4 fr hq b1 b2 b3 q0 q1 q2 v0 v1 v2 HU hN
    generalize w4.drewN n5 = w5 at *
    by_cases ka : a = 42
    · have kA : (a == 42) = true := by simp [ka]
      by_cases kb : b = 2
      · have kB : (b == 2) = true := by simp [kb]
        by_cases kn : p.length - 4 < n
        · have e0 : opn p = ([], [], 52) := by rw [e0.out, if_neg (by simp [ka]), if_neg (by simp [kb]), if_pos kn]
          have e0 := Lib.hid e0
          have HL : Calls Try.prog 29 _ _ _ := Left_any hr5
          have kN : decide (p.length - 4 < (n : Int)) = true := by simp; omega
          have kN2 : decide ((p.length : Int) - 4 < (n : Int)) = true := by simp; omega
          go_wp2_with (go_at_call 29; refine HL.mono ?_; rintro e w6 ⟨rfl, n6, rfl⟩)
          go_ret3
          rw [e0.out]
          exact ⟨_, _, rfl, (Ob.nil _).old, (Ob.nil _).old, below_drewN' b4 n6⟩
        · have e0 : opn p = ((p.drop 4).take n, p.drop (4 + n), 0) := by rw [e0.out, if_neg (by simp [ka]), if_neg (by simp [kb]), if_neg kn]
          have e0 := Lib.hid e0
          have HL : Calls Try.prog 29 _ _ _ := Left_any hr5
          have kN2 : decide ((p.length : Int) - 4 < (n : Int)) = false := by simp; omega
          have HB := fun n6 => Bytes_any (hr5.drewN n6) n (by show p.length ≤ _; omega)
          rw [bytes_ok (by omega)] at HB
          go_wp2_with (first
            | (go_at_call 29; refine HL.mono ?_; rintro e w6 ⟨rfl, n6, rfl⟩)
            | (go_at_call 20; refine (HB _).mono ?_; rintro e w7 ⟨y1, rfl, hy1, hr7, f7⟩; have HR : Calls Try.prog 22 _ _ _ := Rest_any hr7 (by show p.length ≤ _; omega))
            | (go_at_call 22; refine HR.mono ?_; rintro e w8 ⟨y2, rfl, hy2, hr8, f8⟩))
          go_ret3
          have hz := (Array.getElem?_eq_some_iff.1 hr5.row).1
          have b7 := (below_drewN' b4 n6).trans (f7.belowG hg (below_drewN' b4 n6).size)
          have b8 := b7.trans (f8.belowG hg b7.size)
          have er : (⟨p, 4 + n, 0, 0⟩ : Rd).bytes ((p.length : Int) - (4 + n : Nat)) = (p.drop (4 + n), ⟨p, 4 + n + (p.length - (4 + n)), 0, 0⟩) := by
            rw [show ((p.length : Int) - (4 + n : Nat)) = ((p.length - (4 + n) : Nat) : Int) by omega, bytes_ok (by omega), List.take_of_length_le (by simp)]
          have hy2' : Bs w8 _ y2 _ := hy2
          simp only [er] at hy2'
          have hy1' : Bs w7 _ y1 _ := hy1
          rw [e0.out]
          exact ⟨_, _, rfl, (hy1'.fr f8 (fun b _ h => by subst h; exact hz)).out, hy2'.out, b8⟩
      · have kB : (b == 2) = false := by simp [kb]
        have e0 : opn p = ([], [], 51) := by rw [e0.out, if_neg (by simp [ka]), if_pos kb]
        have e0 := Lib.hid e0
        go_wp2_with fail
        go_ret3
        rw [e0.out]
        exact ⟨_, _, rfl, (Ob.nil _).old, (Ob.nil _).old, b4⟩
    · have kA : (a == 42) = false := by simp [ka]
      have e0 : opn p = ([], [], 50) := by rw [e0.out, if_pos ka]
      have e0 := Lib.hid e0
      go_wp2_with fail
      go_ret3
      rw [e0.out]
      exact ⟨_, _, rfl, (Ob.nil _).old, (Ob.nil _).old, b4⟩
end Go.Proofs.Ytgfhhnmhpncnlaa
