/-
  The reader of octet: what its small methods do. Condition: its row of cells is known.
-/
import Derived.Test.YtgfhhnmhpncnlaaA
namespace Go.Proofs.Ytgfhhnmhpncnlaa
open Go.RowKit
set_option linter.unusedVariables false
set_option linter.unusedSimpArgs false

/-- A reader's state: its bytes, its place, its error, where. -/
structure Rd where
  p : List Int
  at_ : Nat
  err : Int
  spot : Int

/-- The reader at block g, its bytes' slice being v. -/
structure RdAt (w : World) (g : Nat) (v : Value) (r : Rd) : Prop where
  row : w.heap[g]? = some (.cells #[v, .int .i64 r.at_, .int .i64 r.err, .int .i64 r.spot] 85 (0, 0))
  bytes : Bs w (fun b => b = g) v r.p
  le : r.at_ ≤ r.p.length

theorem row_cell {w : World} {g i : Nat} {cs : Array Value} {t : TypeId} {f : Nat × Nat} (h : w.heap[g]? = some (.cells cs t f)) : w.cell? ⟨g, i, none⟩ = cs[i]? := cell_of_row w g i cs t f h
theorem row_free {w : World} {g i : Nat} {cs : Array Value} {t : TypeId} (h : w.heap[g]? = some (.cells cs t (0, 0))) : w.frozen? ⟨g, i, none⟩ = false := by simp [World.frozen?, h]
namespace RdAt
variable {w : World} {g : Nat} {v : Value} {r : Rd}
theorem c0 (h : RdAt w g v r) : w.cell? ⟨g, 0, none⟩ = some v := (row_cell h.row).trans rfl
theorem c1 (h : RdAt w g v r) : w.cell? ⟨g, 1, none⟩ = some (.int .i64 r.at_) := (row_cell h.row).trans rfl
theorem c2 (h : RdAt w g v r) : w.cell? ⟨g, 2, none⟩ = some (.int .i64 r.err) := (row_cell h.row).trans rfl
theorem c3 (h : RdAt w g v r) : w.cell? ⟨g, 3, none⟩ = some (.int .i64 r.spot) := (row_cell h.row).trans rfl
theorem f (h : RdAt w g v r) (i : Nat) : w.frozen? ⟨g, i, none⟩ = false := row_free h.row
end RdAt

/-- A reader's slot equations, opened: the state's parts stand alone. -/
theorem RdAt.open_ {w : World} {g : Nat} {v : Value} {r : Rd} (h : RdAt w g v r) : ∃ A c, v = .slice A r.p.length c ∧ r.p.length ≤ c ∧ c ≤ 9223372036854775807 := by
  obtain ⟨A, c, hv, h1, h2, -⟩ := h.bytes
  exact ⟨A, c, hv, h1, by unfold maxLen at h2; omega⟩

set_option maxHeartbeats 400000 in
theorem Left_any {w : World} {g : Nat} {v : Value} {r : Rd} (h : RdAt w g v r) :
    Calls Try.prog 29 #[.pointer (some ⟨g, 0, none⟩)] w fun e w' => e = .returned (.int .i64 ((r.p.length : Int) - r.at_)) ∧ ∃ n, w' = w.drewN n := by
  have H0 := h.c0; have H1 := h.c1
  have hle := h.le
  obtain ⟨A, c, rfl, hc1, hc2⟩ := h.open_
  obtain ⟨P, a, e, s⟩ := r
  simp only at H0 H1 hc1 hle hc2 ⊢
  go_enter Try.func29, Try.ntmps29
  go_wp2
  go_quiet (fail)
  go_wp2
  go_ret
  exact ⟨rfl, _, rfl⟩

set_option maxHeartbeats 400000 in
theorem At_any {w : World} {g : Nat} {v : Value} {r : Rd} (h : RdAt w g v r) :
    Calls Try.prog 28 #[.pointer (some ⟨g, 0, none⟩)] w fun e w' => e = .returned (.int .i64 r.at_) ∧ w' = w := by
  have H1 := h.c1
  go_enter Try.func28, Try.ntmps28
  go_wp2
  go_ret
  exact ⟨rfl, rfl⟩

set_option maxHeartbeats 400000 in
theorem Why_any {w : World} {g : Nat} {v : Value} {r : Rd} (h : RdAt w g v r) :
    Calls Try.prog 26 #[.pointer (some ⟨g, 0, none⟩)] w fun e w' => e = .returned (.tuple #[.int .i64 r.err, .int .i64 r.spot]) ∧ ∃ n, w' = w.drewN n := by
  have H2 := h.c2; have H3 := h.c3
  go_enter Try.func26, Try.ntmps26
  go_wp2
  go_quiet (fail)
  go_wp2
  go_ret2
  exact ⟨rfl, _, rfl⟩

set_option maxHeartbeats 400000 in
theorem num_any (n : Int) (w : World) :
    Calls Try.prog 27 #[.int .i64 n] w fun e w' => e = .returned (.int .i64 n) ∧ w' = w := by
  go_enter Try.func27, Try.ntmps27
  go_wp2
  go_ret
  exact ⟨rfl, rfl⟩

def Rd.fail (r : Rd) (e : Int) : Rd := if r.err = 0 ∧ e ≠ 0 then { r with err := e, spot := r.at_ } else r

theorem RdAt.drewN {w : World} {g : Nat} {v : Value} {r : Rd} (h : RdAt w g v r) (n : Nat) : RdAt (w.drewN n) g v r := ⟨h.row, h.bytes.fr (S' := fun _ => False) ((Fr.refl _ _).drewN n) (fun _ _ h => h.elim), h.le⟩


theorem RdAt.set_ {w : World} {g : Nat} {v : Value} {r r' : Rd} (h : RdAt w g v r) (hp : r'.p = r.p) (hle : r'.at_ ≤ r'.p.length) {w' : World} (hf : Fr (fun b => b = g) w w')
    (hr : w'.heap[g]? = some (.cells #[v, .int .i64 r'.at_, .int .i64 r'.err, .int .i64 r'.spot] 85 (0, 0))) : RdAt w' g v r' :=
  ⟨hr, hp ▸ h.bytes.fr hf (fun _ _ h => h), hle⟩
theorem row_set {w : World} {g i : Nat} {cs cs' : Array Value} {t : TypeId} (h : w.heap[g]? = some (.cells cs t (0, 0))) (u : Value) (he : cs.setIfInBounds i u = cs') : (w.setCell ⟨g, i, none⟩ u).heap[g]? = some (.cells cs' t (0, 0)) := by
  simp [World.setCell, Array.getElem?_modify, h, he]

set_option maxHeartbeats 400000 in
theorem Fail_any {w : World} {g : Nat} {v : Value} {r : Rd} (h : RdAt w g v r) (x : Int) :
    Calls Try.prog 24 #[.pointer (some ⟨g, 0, none⟩), .int .i64 x] w fun e w' => e = .returned (.tuple #[]) ∧ RdAt w' g v (r.fail x) ∧ Fr (fun b => b = g) w w' := by
  have H1 := h.c1; have H2 := h.c2; have H3 := h.c3
  have F2 := h.f 2; have F3 := h.f 3
  by_cases he : r.err = 0
  · by_cases hx : x = 0
    · have hf : Hid (r.fail x = r) := by unfold Rd.fail; rw [if_neg (by simp [hx])]; rfl
      subst hx
      rw [he] at H2
      clear he
      go_enter Try.func24, Try.ntmps24
      go_wp2
      go_end0
      exact ⟨rfl, by rw [hf.out]; exact h, Fr.refl _ _⟩
    · have hf : Hid (r.fail x = { r with err := x, spot := r.at_ }) := by unfold Rd.fail; rw [if_pos ⟨he, hx⟩]; rfl
      have hb : (x == 0) = false := by simp [hx]
      rw [he] at H2
      have hb2 : (x != 0) = true := by simp [hx]
      clear he
      go_enter Try.func24, Try.ntmps24
      go_wp2
      go_end0
      have HF : Fr (fun b => b = g) w ((w.setCell ⟨g, 2, none⟩ (.int .i64 x)).setCell ⟨g, 3, none⟩ (.int .i64 r.at_)) := ((Fr.refl (fun b => b = g) w).setCell (p := ⟨g, 2, none⟩) (.inl rfl) _).setCell (p := ⟨g, 3, none⟩) (.inl rfl) _
      refine ⟨rfl, ?_, HF⟩
      rw [hf.out]
      exact h.set_ (r' := { r with err := x, spot := r.at_ }) rfl h.le HF (row_set (row_set h.row (cs' := #[v, .int .i64 r.at_, .int .i64 x, .int .i64 r.spot]) _ rfl) _ rfl)
  · have hf : Hid (r.fail x = r) := by unfold Rd.fail; rw [if_neg (by simp [he])]; rfl
    have hb : (r.err == 0) = false := by simp [he]
    go_enter Try.func24, Try.ntmps24
    go_wp2
    go_end0
    exact ⟨rfl, by rw [hf.out]; exact h, Fr.refl _ _⟩

def Rd.left (r : Rd) : Nat := r.p.length - r.at_
def Rd.done (r : Rd) : Int := if r.err ≠ 0 ∨ r.at_ = r.p.length then r.err else 4


set_option maxHeartbeats 400000 in
theorem Done_any {w : World} {g : Nat} {v : Value} {r : Rd} (h : RdAt w g v r) :
    Calls Try.prog 30 #[.pointer (some ⟨g, 0, none⟩)] w fun e w' => e = .returned (.int .i64 r.done) ∧ ∃ n, w' = w.drewN n := by
  have hle := h.le
  by_cases he : r.err = 0
  · have hd : r.done = if r.at_ = r.p.length then 0 else 4 := by unfold Rd.done; simp [he]
    have hw := Why_any h
    rw [he] at hw
    by_cases ha : r.at_ = r.p.length
    · have hb : ((r.p.length : Int) - r.at_ == 0) = true := by simp; omega
      rw [if_pos ha] at hd
      have Hd := Lib.hid hd
      clear he hd ha
      go_enter Try.func30, Try.ntmps30
      go_wp2_with (first | (go_at_call 26; refine hw.mono ?_; rintro e w' ⟨rfl, n1, rfl⟩) | (go_at_call 29; refine (Left_any (h.drewN _)).mono ?_; rintro e w' ⟨rfl, n2, rfl⟩))
      go_ret
      exact ⟨by rw [Hd.out]; rfl, _, rfl⟩
    · have hb : ((r.p.length : Int) - r.at_ == 0) = false := by simp; omega
      rw [if_neg ha] at hd
      have Hd := Lib.hid hd
      clear he hd ha
      go_enter Try.func30, Try.ntmps30
      go_wp2_with (first | (go_at_call 26; refine hw.mono ?_; rintro e w' ⟨rfl, n1, rfl⟩) | (go_at_call 29; refine (Left_any (h.drewN _)).mono ?_; rintro e w' ⟨rfl, n2, rfl⟩))
      go_ret
      exact ⟨by rw [Hd.out]; rfl, _, rfl⟩
  · have hd : Hid (r.done = r.err) := by unfold Rd.done; rw [if_pos (.inl he)]; exact Lib.hid rfl
    have hb : (r.err != 0) = true := by simp [he]
    go_enter Try.func30, Try.ntmps30
    go_wp2_with (first | (go_at_call 26; refine (Why_any h).mono ?_; rintro e w' ⟨rfl, n1, rfl⟩))
    go_ret
    exact ⟨by rw [hd.out]; rfl, _, rfl⟩

/-- A fresh reading: the slice's block is new since w. -/
def BsF (w w' : World) (v : Value) (l : List Int) : Prop := Bs w' (fun b => b < w.heap.size) v l

set_option maxHeartbeats 400000 in
theorem Clone_any {w : World} {S : Nat → Prop} {v : Value} {l : List Int} (h : Bs w S v l) (hl : l.length ≤ 140737488355328) :
    Calls Try.prog 48 #[v] w fun e w' => ∃ v', e = .returned v' ∧ BsF w w' v' l ∧ Fr (fun _ => False) w w' := by
  obtain ⟨A, c, rfl, h1, h2, h3, h4, h5⟩ := id h
  cases A with
  | none =>
    have hq : (binOp .eql 22 (.slice none 0 0) (.slice none 0 0)).run Try.prog w = .ok (.bool true) w := Lib.run_eql_slice_nil (P := Try.prog) w 22 5 none 0 0 0 0 Try.underlying22
    obtain rfl := h3 rfl
    have hnil : l = [] := List.length_eq_zero_iff.1 (by omega)
    subst hnil
    clear h2
    go_enter Try.func48, Try.ntmps48
    go_wp2
    go_ret
    exact ⟨_, rfl, Bs.nil _ _, Fr.refl _ _⟩
  | some a =>
    have hq : (binOp .eql 22 (.slice (some a) l.length c) (.slice none 0 0)).run Try.prog w = .ok (.bool false) w := Lib.run_eql_slice_nil (P := Try.prog) w 22 5 (some a) l.length c 0 0 Try.underlying22
    obtain ⟨-, -, -, -, -, hn1, hn2⟩ := h.news
    go_enter Try.func48, Try.ntmps48
    go_wp2_with (at_builtin; refine wpList_appB rfl (.tmp 5) (.tmp 6) rfl rfl (Ob.empty w) rfl (h.fr (S' := fun _ => False) ((Fr.refl _ w).alloc _) (fun _ _ h => h.elim)) (by simpa using hl) ?_; intro v' w1 hob hn hg)
    go_ret
    rw [List.nil_append] at hob
    have hfr : FrV (.slice (some ⟨w.heap.size, 0, none⟩) 0 0) (w.alloc (.cells #[] 5)) w1 := hg
    refine ⟨_, rfl, hob.bs (fun b hb => Nat.not_lt.2 ?_), ((Fr.refl _ w).alloc _).trans hfr (fun b hb => .inr (Nat.le_of_eq (Option.some.inj hb)))⟩
    rcases hn with hn | ⟨k, hn, hk⟩
    · exact Nat.le_of_eq (Option.some.inj (hn.symm.trans hb))
    · rw [hn] at hb; cases hb; simp at hk; omega

def Rd.bytes (r : Rd) (n : Int) : List Int × Rd :=
  if r.err ≠ 0 then ([], r) else if n < 0 then ([], r.fail 2) else if n > r.left then ([], r.fail 3)
  else (((r.p.drop r.at_).take n.toNat), { r with at_ := r.at_ + n.toNat })

set_option maxHeartbeats 800000 in
theorem Bytes_any {w : World} {g : Nat} {v : Value} {r : Rd} (h : RdAt w g v r) (n : Int) (hl : r.p.length ≤ 140737488355328) :
    Calls Try.prog 20 #[.pointer (some ⟨g, 0, none⟩), .int .i64 n] w fun e w' => ∃ v', e = .returned v' ∧ BsF w w' v' (r.bytes n).1 ∧ RdAt w' g v (r.bytes n).2 ∧ Fr (fun b => b = g) w w' := by
  have H0 := h.c0; have H1 := h.c1; have H2 := h.c2
  have F1 := h.f 1
  have hle := h.le
  obtain ⟨A, c, rfl, hc1, hc2⟩ := h.open_
  by_cases he : r.err = 0
  · by_cases hn : n < 0
    · have hb : Hid (r.bytes n = ([], r.fail 2)) := by unfold Rd.bytes; rw [if_neg (by simp [he]), if_pos hn]; exact Lib.hid rfl
      rw [he] at H2
      clear he
      go_enter Try.func20, Try.ntmps20
      go_wp2_with (go_at_call 24; refine (Fail_any h 2).mono ?_; rintro e w' ⟨rfl, hr, hf⟩)
      go_ret
      rw [hb.out]
      exact ⟨_, rfl, Bs.nil _ _, hr, hf⟩
    · by_cases hm : n > (r.left : Int)
      · have hb : Hid (r.bytes n = ([], r.fail 3)) := by unfold Rd.bytes; rw [if_neg (by simp [he]), if_neg hn, if_pos hm]; exact Lib.hid rfl
        rw [he] at H2
        unfold Rd.left at hm
        have hd : decide ((r.p.length : Int) - r.at_ < n) = true := by simp; omega
        clear he
        go_enter Try.func20, Try.ntmps20
        go_wp2_with (first | (go_at_call 24; refine (Fail_any (h.drewN _) 3).mono ?_; rintro e w' ⟨rfl, hr, hf⟩) | (go_at_call 29; refine (Left_any h).mono ?_; rintro e w' ⟨rfl, n1, rfl⟩))
        go_ret
        rw [hb.out]
        exact ⟨_, rfl, Bs.nil _ _, hr, ((Fr.refl _ w).drewN n1).trans hf (fun b hb => .inl hb)⟩
      · obtain ⟨k, rfl⟩ := Int.eq_ofNat_of_zero_le (show 0 ≤ n by omega)
        unfold Rd.left at hm
        have hb : Hid (r.bytes k = (((r.p.drop r.at_).take k), { r with at_ := r.at_ + k })) := by unfold Rd.bytes; rw [if_neg (by simp [he]), if_neg hn, if_neg (by unfold Rd.left; omega)]; exact Lib.hid rfl
        rw [he] at H2
        have hd : decide ((r.p.length : Int) - r.at_ < k) = false := by simp; omega
        clear he
        go_enter Try.func20, Try.ntmps20
        go_wp2_with (first | (go_at_call 29; refine (Left_any h).mono ?_; rintro e w' ⟨rfl, n1, rfl⟩))
        have hF : Fr (fun b => b = g) w ((w.drewN n1).setCell ⟨g, 1, none⟩ (.int .i64 ((r.at_ : Int) + k))) := ((Fr.refl (fun b => b = g) w).drewN n1).setCell (p := ⟨g, 1, none⟩) (.inl rfl) _
        have hR := h.set_ (r' := { r with at_ := r.at_ + k }) rfl (by simp only; omega) hF (row_set (h.drewN n1).row _ rfl)
        refine wp_region_tail 15 (by kernel_rfl) (by kernel_rfl) ?_
        intro w2 hw2
        have hF2 : Fr (fun b => b = g) w w2 := hw2 ▸ hF.drew
        have hR2 : RdAt w2 g (.slice A r.p.length c) { r with at_ := r.at_ + k } := hw2 ▸ hR.drewN 1
        clear hw2 hF hR H0 H1 H2 F1
        have G0 := hR2.c0
        have G1 : w2.cell? ⟨g, 1, none⟩ = some (.int .i64 ((r.at_ : Int) + k)) := by have := hR2.c1; simpa using this
        simp only [List.take_succ_cons, List.take_zero, List.drop_succ_cons, List.drop_zero]
        have a1 : IntKind.i64.wrap (r.at_ : Int) = r.at_ := IntWalk.i64_in _ (by omega)
        have hcut := cut_mid (P := Try.prog) 22 5 .i64 .i64 Try.underlying22 Try.info5 A r.p.length c r.at_ ((r.at_ : Int) + k) (by omega) (by omega) (by omega) hc1
        have hbc := hR2.bytes.cut (i := r.at_) (j := r.at_ + k) (by omega) (by simp only; omega)
        rw [show ((r.at_ : Int) + k).toNat = r.at_ + k from by omega, Int.toNat_natCast, Nat.mul_one] at hcut
        rw [show r.at_ + k - r.at_ = k from by omega] at hcut hbc
        generalize (if c = r.at_ then A else A.map (·.add r.at_)) = A1 at hcut hbc
        repeat still_step
        refine wpStill_nil ?_
        clear a1 hcut
        go_wp2_with (go_at_call 48; refine (Clone_any hbc (by simp; omega)).mono ?_; rintro e w' ⟨v', rfl, hb1, hf1⟩)
        go_ret
        rw [hb.out]
        have hsz := hF2.size
        refine ⟨_, rfl, hb1.mono_l ?_ (fun b hlt => Nat.lt_of_lt_of_le hlt hsz), ⟨(hf1.obj hR2.row (fun h => h)), hR2.bytes.fr hf1 (fun _ _ h => h.elim), hR2.le⟩, hF2.trans hf1 (fun _ h => h.elim)⟩
        simp only
        rw [List.drop_take]
        congr 1
        omega
  · have hb : Hid (r.bytes n = ([], r)) := by unfold Rd.bytes; rw [if_pos he]; exact Lib.hid rfl
    have hd : (r.err != 0) = true := by simp [he]
    go_enter Try.func20, Try.ntmps20
    go_wp2
    go_ret
    rw [hb.out]
    exact ⟨_, rfl, Bs.nil _ _, h, Fr.refl _ _⟩
end Go.Proofs.Ytgfhhnmhpncnlaa
