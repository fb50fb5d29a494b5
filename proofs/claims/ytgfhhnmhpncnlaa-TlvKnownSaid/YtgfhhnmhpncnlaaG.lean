/-
  The reference's reader: what its methods do. Condition: its row of cells is known.
-/
import Derived.Test.YtgfhhnmhpncnlaaF
namespace Go.Proofs.Ytgfhhnmhpncnlaa
open Go.RowKit
set_option linter.unusedVariables false
set_option linter.unusedSimpArgs false

/-- The reference's reader at block g. -/
structure RrAt (w : World) (g : Nat) (v : Value) (r : Rd) : Prop where
  row : w.heap[g]? = some (.cells #[v, .int .i64 r.at_, .int .i64 r.err, .int .i64 r.spot] 46 (0, 0))
  bytes : Bs w (fun b => b = g) v r.p
  le : r.at_ ≤ r.p.length
namespace RrAt
variable {w : World} {g : Nat} {v : Value} {r : Rd}
theorem c0 (h : RrAt w g v r) : w.cell? ⟨g, 0, none⟩ = some v := (row_cell h.row).trans rfl
theorem c1 (h : RrAt w g v r) : w.cell? ⟨g, 1, none⟩ = some (.int .i64 r.at_) := (row_cell h.row).trans rfl
theorem c2 (h : RrAt w g v r) : w.cell? ⟨g, 2, none⟩ = some (.int .i64 r.err) := (row_cell h.row).trans rfl
theorem c3 (h : RrAt w g v r) : w.cell? ⟨g, 3, none⟩ = some (.int .i64 r.spot) := (row_cell h.row).trans rfl
theorem f (h : RrAt w g v r) (i : Nat) : w.frozen? ⟨g, i, none⟩ = false := row_free h.row
theorem open_ (h : RrAt w g v r) : ∃ A c, v = .slice A r.p.length c ∧ r.p.length ≤ c ∧ c ≤ 9223372036854775807 := by
  obtain ⟨A, c, hv, h1, h2, -⟩ := h.bytes
  exact ⟨A, c, hv, h1, by unfold maxLen at h2; omega⟩
theorem drewN (h : RrAt w g v r) (n : Nat) : RrAt (w.drewN n) g v r := ⟨h.row, h.bytes.fr (S' := fun _ => False) ((Fr.refl _ _).drewN n) (fun _ _ h => h.elim), h.le⟩
theorem set_ {r' : Rd} (h : RrAt w g v r) (hp : r'.p = r.p) (hle : r'.at_ ≤ r'.p.length) {w' : World} (hf : Fr (fun b => b = g) w w')
    (hr : w'.heap[g]? = some (.cells #[v, .int .i64 r'.at_, .int .i64 r'.err, .int .i64 r'.spot] 46 (0, 0))) : RrAt w' g v r' :=
  ⟨hr, hp ▸ h.bytes.fr hf (fun _ _ h => h), hle⟩
theorem hasFr2 {w' : World} (h : RrAt w g v r) {S S' : Nat → Prop} (hb : Bs w S v r.p) (hf : Fr S' w w') (hg : ¬ S' g) (hv : ∀ b, b < w.heap.size → S' b → S b) : RrAt w' g v r := by
  refine ⟨hf.obj h.row hg, ?_, h.le⟩
  obtain ⟨A, c, h0, h1, h2, h3, h4, h5⟩ := h.bytes
  obtain ⟨A', c', h0', -, -, -, -, h5'⟩ := hb
  obtain ⟨rfl, -, -⟩ : A = A' ∧ r.p.length = r.p.length ∧ c = c' := by rw [h0] at h0'; injection h0' with a b c; exact ⟨a, b, c⟩
  refine ⟨A, c, h0, h1, h2, h3, h4, fun a ha hn => ?_⟩
  obtain ⟨p1, p2, p3, p4⟩ := h5 a ha hn
  exact ⟨p1, p2, Nat.lt_of_lt_of_le p3 hf.size, fun j hj => hf.cell (p4 j hj) (by rw [add_block]; exact fun h => (h5' a ha hn).2.1 (hv _ p3 h))⟩
theorem hasFr {w' : World} (h : RrAt w g v r) {S : Nat → Prop} (hf : Fr S w w') (hg : ¬ S g) (hv : ∀ b, b < w.heap.size → S b → b = g) : RrAt w' g v r :=
  ⟨hf.obj h.row hg, h.bytes.fr hf hv, h.le⟩
end RrAt

set_option maxHeartbeats 400000 in
theorem RFail_any {w : World} {g : Nat} {v : Value} {r : Rd} (h : RrAt w g v r) (x : Int) :
    Calls Try.prog 25 #[.pointer (some ⟨g, 0, none⟩), .int .i64 x] w fun e w' => e = .returned (.tuple #[]) ∧ RrAt w' g v (r.fail x) ∧ Fr (fun b => b = g) w w' := by
  have H1 := h.c1; have H2 := h.c2; have H3 := h.c3
  have F2 := h.f 2; have F3 := h.f 3
  by_cases he : r.err = 0
  · by_cases hx : x = 0
    · have hf : Hid (r.fail x = r) := by unfold Rd.fail; rw [if_neg (by simp [hx])]; exact Lib.hid rfl
      subst hx
      rw [he] at H2
      clear he
      go_enter Try.func25, Try.ntmps25
      go_wp2
      go_end0
      exact ⟨rfl, by rw [hf.out]; exact h, Fr.refl _ _⟩
    · have hf : Hid (r.fail x = { r with err := x, spot := r.at_ }) := by unfold Rd.fail; rw [if_pos ⟨he, hx⟩]; exact Lib.hid rfl
      have hb : (x == 0) = false := by simp [hx]
      have hb2 : (x != 0) = true := by simp [hx]
      rw [he] at H2
      clear he
      go_enter Try.func25, Try.ntmps25
      go_wp2
      go_end0
      have HF : Fr (fun b => b = g) w ((w.setCell ⟨g, 2, none⟩ (.int .i64 x)).setCell ⟨g, 3, none⟩ (.int .i64 r.at_)) := ((Fr.refl (fun b => b = g) w).setCell (p := ⟨g, 2, none⟩) (.inl rfl) _).setCell (p := ⟨g, 3, none⟩) (.inl rfl) _
      refine ⟨rfl, ?_, HF⟩
      rw [hf.out]
      exact h.set_ (r' := { r with err := x, spot := r.at_ }) rfl h.le HF (row_set (row_set h.row (cs' := #[v, .int .i64 r.at_, .int .i64 x, .int .i64 r.spot]) _ rfl) _ rfl)
  · have hf : Hid (r.fail x = r) := by unfold Rd.fail; rw [if_neg (by simp [he])]; exact Lib.hid rfl
    have hb : (r.err == 0) = false := by simp [he]
    go_enter Try.func25, Try.ntmps25
    go_wp2
    go_end0
    exact ⟨rfl, by rw [hf.out]; exact h, Fr.refl _ _⟩

set_option maxHeartbeats 400000 in
theorem RDone_any {w : World} {g : Nat} {v : Value} {r : Rd} (h : RrAt w g v r) :
    Calls Try.prog 31 #[.pointer (some ⟨g, 0, none⟩)] w fun e w' => e = .returned (.int .i64 r.done) ∧ ∃ n, w' = w.drewN n := by
  have H0 := h.c0; have H1 := h.c1; have H2 := h.c2
  have hle := h.le
  obtain ⟨A, c, rfl, hc1, hc2⟩ := h.open_
  by_cases he : r.err = 0
  · have hd : r.done = if r.at_ = r.p.length then 0 else 4 := by unfold Rd.done; simp [he]
    rw [he] at H2
    by_cases ha : r.at_ = r.p.length
    · have hb : decide (r.at_ < r.p.length) = false := by simp; omega
      rw [if_pos ha] at hd
      have Hd := Lib.hid hd
      clear he hd ha
      go_enter Try.func31, Try.ntmps31
      go_wp2
      go_quiet (fail)
      go_wp2
      go_ret
      exact ⟨by rw [Hd.out]; rfl, _, rfl⟩
    · have hb : decide (r.at_ < r.p.length) = true := by simp; omega
      rw [if_neg ha] at hd
      have Hd := Lib.hid hd
      clear he hd ha
      go_enter Try.func31, Try.ntmps31
      go_wp2
      go_quiet (fail)
      go_wp2
      go_ret
      exact ⟨by rw [Hd.out]; rfl, _, rfl⟩
  · have hd : Hid (r.done = r.err) := by unfold Rd.done; rw [if_pos (.inl he)]; exact Lib.hid rfl
    have hb : (r.err == 0) = false := by simp [he]
    go_enter Try.func31, Try.ntmps31
    go_wp2
    go_quiet (fail)
    go_wp2
    go_ret
    exact ⟨by rw [hd.out]; rfl, _, rfl⟩

set_option maxHeartbeats 1600000 in
theorem RBytes_any {w : World} {g : Nat} {v : Value} {r : Rd} (h : RrAt w g v r) (n : Int) (hl : r.p.length ≤ 140737488355328) :
    Calls Try.prog 21 #[.pointer (some ⟨g, 0, none⟩), .int .i64 n] w fun e w' => ∃ v', e = .returned v' ∧ BsF w w' v' (r.bytes n).1 ∧ RrAt w' g v (r.bytes n).2 ∧ Fr (fun b => b = g) w w' := by
  have H0 := h.c0; have H1 := h.c1; have H2 := h.c2
  have F1 := h.f 1
  have hle := h.le
  obtain ⟨A, c, rfl, hc1, hc2⟩ := h.open_
  by_cases he : r.err = 0
  · by_cases hn : n < 0
    · have hb : Hid (r.bytes n = ([], r.fail 2)) := by unfold Rd.bytes; rw [if_neg (by simp [he]), if_pos hn]; exact Lib.hid rfl
      rw [he] at H2
      clear he
      go_enter Try.func21, Try.ntmps21
      go_wp2_with (go_at_call 25; refine (RFail_any h 2).mono ?_; rintro e w' ⟨rfl, hr, hf⟩)
      go_ret
      rw [hb.out]
      exact ⟨_, rfl, Bs.nil _ _, hr, hf⟩
    · by_cases hm : n > (r.left : Int)
      · have hb : Hid (r.bytes n = ([], r.fail 3)) := by unfold Rd.bytes; rw [if_neg (by simp [he]), if_neg hn, if_pos hm]; exact Lib.hid rfl
        rw [he] at H2
        unfold Rd.left at hm
        have hd : decide ((r.p.length : Int) - r.at_ < n) = true := by simp; omega
        clear he
        go_enter Try.func21, Try.ntmps21
        go_wp2
        go_quiet (fail)
        go_wp2_with (first | (go_at_call 25; refine (RFail_any (h.drewN _) 3).mono ?_; rintro e w' ⟨rfl, hr, hf⟩))
        go_ret
        rw [hb.out]
        exact ⟨_, rfl, Bs.nil _ _, hr, ((Fr.refl _ w).drewN nq).trans hf (fun b hb => .inl hb)⟩
      · obtain ⟨k, rfl⟩ := Int.eq_ofNat_of_zero_le (show 0 ≤ n by omega)
        unfold Rd.left at hm
        have hb : Hid (r.bytes k = (((r.p.drop r.at_).take k), { r with at_ := r.at_ + k })) := by unfold Rd.bytes; rw [if_neg (by simp [he]), if_neg hn, if_neg (by unfold Rd.left; omega)]; exact Lib.hid rfl
        rw [he] at H2
        have hd : decide ((r.p.length : Int) - r.at_ < k) = false := by simp; omega
        clear he
        go_enter Try.func21, Try.ntmps21
        go_wp2
        go_quiet (fail)
        go_wp2
        have hF : Fr (fun b => b = g) w ((w.drewN nq).setCell ⟨g, 1, none⟩ (.int .i64 ((r.at_ : Int) + k))) := ((Fr.refl (fun b => b = g) w).drewN nq).setCell (p := ⟨g, 1, none⟩) (.inl rfl) _
        have hR := h.set_ (r' := { r with at_ := r.at_ + k }) rfl (by simp only; omega) hF (row_set (h.drewN nq).row _ rfl)
        generalize (w.drewN nq).setCell ⟨g, 1, none⟩ (.int .i64 ((r.at_ : Int) + k)) = w2 at *
        clear H0 H1 H2 F1
        have G0 := hR.c0
        have G1 : w2.cell? ⟨g, 1, none⟩ = some (.int .i64 ((r.at_ : Int) + k)) := by have := hR.c1; simpa using this
        have a1 : IntKind.i64.wrap (r.at_ : Int) = r.at_ := IntWalk.i64_in _ (by omega)
        have hcut := cut_mid (P := Try.prog) 22 5 .i64 .i64 Try.underlying22 Try.info5 A r.p.length c r.at_ ((r.at_ : Int) + k) (by omega) (by omega) (by omega) hc1
        have hbc := hR.bytes.cut (i := r.at_) (j := r.at_ + k) (by omega) (by simp only; omega)
        rw [show ((r.at_ : Int) + k).toNat = r.at_ + k from by omega, Int.toNat_natCast, Nat.mul_one] at hcut
        rw [show r.at_ + k - r.at_ = k from by omega] at hcut hbc
        generalize (if c = r.at_ then A else A.map (·.add r.at_)) = A1 at hcut hbc
        have hlt := (Array.getElem?_eq_some_iff.1 hR.row).1
        have hal : Fr (fun _ => False) w2 (w2.alloc (.cells #[] 5)).drew := ((Fr.refl _ w2).alloc _).drew
        have hlen : ([] : List Int).length + ((r.p.take (r.at_ + k)).drop r.at_).length ≤ 140737488355328 := by simp; omega
        go_region_held3 (fun W => W.cell? ⟨g, 0, none⟩ = some (.slice A r.p.length c) ∧ W.cell? ⟨g, 1, none⟩ = some (.int .i64 ((r.at_ : Int) + k)))
          (first | go_keep | exact ⟨hfr.cell (hal.cell G0 (fun h => h)) (fun hb => Nat.ne_of_gt hlt (Option.some.inj hb)), hfr.cell (hal.cell G1 (fun h => h)) (fun hb => Nat.ne_of_gt hlt (Option.some.inj hb))⟩)
          ((refine step_of_wp rfl (wp_appB (.tmp 37) (.tmp 52) rfl rfl (show Ob _ (.slice (some ⟨w2.heap.size, 0, none⟩) 0 0) [] from Ob.empty w2) rfl (show Bs _ (fun b => b = g) (.slice A1 k (c - r.at_)) _ from hbc.fr (S' := fun _ => False) hal (fun _ _ h => h.elim)) hlen ?_); intro v' w3 hob hnx hfr0; have hfr : FrV (.slice (some ⟨w2.heap.size, 0, none⟩) 0 0) (w2.alloc (.cells #[] 5)).drew w3 := hfr0; clear hfr0))
        go_wp2
        go_ret
        rw [hb.out]
        have hF3 : Fr (fun _ => False) w2 w3 := hal.trans hfr (fun b hb => .inr (Nat.le_of_eq (Option.some.inj hb)))
        have hsz := hF.size
        refine ⟨_, rfl, ?_, hR.hasFr hF3 (fun h => h) (fun _ _ h => h.elim), hF.trans hF3 (fun _ h => h.elim)⟩
        have hl2 : [] ++ (r.p.take (r.at_ + k)).drop r.at_ = (r.p.drop r.at_).take k := by rw [List.nil_append, List.drop_take, Nat.add_sub_cancel_left]
        rw [hl2] at hob
        refine hob.bs (fun b hb => Nat.not_lt.2 ?_)
        rcases hnx with hn | ⟨q, hn, hq⟩
        · exact Nat.le_trans hsz (Nat.le_of_eq (Option.some.inj (hn.symm.trans hb)))
        · rw [hn] at hb; cases hb; exact Nat.le_trans hsz (Nat.le_trans hal.size hq)
  · have hb : Hid (r.bytes n = ([], r)) := by unfold Rd.bytes; rw [if_pos he]; exact Lib.hid rfl
    have hd : (r.err != 0) = true := by simp [he]
    go_enter Try.func21, Try.ntmps21
    go_wp2
    go_ret
    rw [hb.out]
    exact ⟨_, rfl, Bs.nil _ _, h, Fr.refl _ _⟩

set_option maxHeartbeats 400000 in
theorem RRest_any {w : World} {g : Nat} {v : Value} {r : Rd} (h : RrAt w g v r) (hl : r.p.length ≤ 140737488355328) :
    Calls Try.prog 23 #[.pointer (some ⟨g, 0, none⟩)] w fun e w' => ∃ v', e = .returned v' ∧ BsF w w' v' (r.bytes ((r.p.length : Int) - r.at_)).1 ∧ RrAt w' g v (r.bytes ((r.p.length : Int) - r.at_)).2 ∧ Fr (fun b => b = g) w w' := by
  have hle := h.le
  obtain ⟨A, c, rfl, hc1, hc2⟩ := h.open_
  go_enter Try.func23, Try.ntmps23
  go_wp2
  refine wp_region_tail 11 (by kernel_rfl) (by kernel_rfl) ?_
  intro w2 hw2
  have hF : Fr (fun _ => False) w w2 := hw2 ▸ (Fr.refl _ w).drew
  have hR : RrAt w2 g (.slice A r.p.length c) r := hw2 ▸ h.drewN 1
  clear hw2
  have G0 := hR.c0; have G1 := hR.c1
  simp only [List.take_succ_cons, List.take_zero, List.drop_succ_cons, List.drop_zero]
  repeat still_step
  refine wpStill_nil ?_
  go_wp2_with (go_at_call 21; refine (RBytes_any hR ((r.p.length : Int) - r.at_) hl).mono ?_; rintro e w1 ⟨v1, rfl, hb, hr, hf⟩)
  go_ret
  exact ⟨_, rfl, hb.mono_l rfl (fun b hb => Nat.lt_of_lt_of_le hb hF.size), hr, Fr.trans (S := fun b => b = g) (hF.mono (fun _ h => h.elim)) hf (fun b hb => .inl hb)⟩

set_option maxHeartbeats 400000 in
theorem RNew_any {w : World} {S : Nat → Prop} {v : Value} {l : List Int} (h : Bs w S v l) (hl : l.length ≤ 140737488355328) :
    Calls Try.prog 15 #[v] w fun e w' => ∃ g v', e = .returned (.pointer (some ⟨g, 0, none⟩)) ∧ w.heap.size ≤ g ∧ RrAt w' g v' (Rd.new l) ∧ BsF w w' v' l ∧ Fr (fun _ => False) w w' := by
  obtain ⟨A, c, rfl, -⟩ := id h
  have hal : Fr (fun _ => False) w (w.alloc (.cells #[] 5)) := (Fr.refl _ w).alloc _
  go_enter Try.func15, Try.ntmps15
  go_wp2_with (at_builtin; refine wpList_appB rfl (.tmp 3) (.tmp 4) rfl rfl (Ob.empty w) rfl (h.fr (S' := fun _ => False) hal (fun _ _ h => h.elim)) (by simpa using hl) ?_; intro v' w1 hob hnx hf1; rw [List.nil_append] at hob; obtain ⟨A1, c1, rfl⟩ := hob.slice)
  go_ret
  have hf1' : FrV (.slice (some ⟨w.heap.size, 0, none⟩) 0 0) (w.alloc (.cells #[] 5)) w1 := hf1
  have hF1 : Fr (fun _ => False) w w1 := hal.trans hf1' (fun b hb => .inr (Nat.le_of_eq (Option.some.inj hb)))
  have hlt := hob.lt
  have hal2 : Fr (fun _ => False) w1 (w1.alloc (.cells #[.slice A1 l.length c1, .int .i64 0, .int .i64 0, .int .i64 0] 46)) := (Fr.refl _ w1).alloc _
  refine ⟨_, .slice A1 l.length c1, rfl, hF1.size, ⟨heap_alloc_new _ _, ?_, Nat.zero_le _⟩, ?_, hF1.trans hal2 (fun _ h => h.elim)⟩
  rotate_left
  · refine (hob.bs (S := fun b => b < w.heap.size) (fun b hb => Nat.not_lt.2 ?_)).fr hal2 (fun _ _ h => h.elim)
    rcases hnx with hn | ⟨q, hn, hq⟩
    · exact Nat.le_of_eq (Option.some.inj (hn.symm.trans hb))
    · rw [hn] at hb; cases hb; exact Nat.le_trans hal.size hq
  exact (hob.bs (S := fun b => b = w1.heap.size) (fun b hb h => by have := hlt b hb; omega)).fr hal2 (fun _ _ h => h.elim)

set_option maxHeartbeats 800000 in
theorem RNum_any {w : World} {g : Nat} {v : Value} {r : Rd} (h : RrAt w g v r) (k : Int) (hl : r.p.length ≤ 140737488355328) {l : List Int} {r' : Rd} (hk : r.bytes k = (l, r')) :
    Calls Try.prog 17 #[.pointer (some ⟨g, 0, none⟩), .int .i64 k] w fun e w' => e = .returned (.int .u32 (be l)) ∧ RrAt w' g v r' ∧ Fr (fun b => b = g) w w' := by
  have hB := RBytes_any h k hl
  rw [hk] at hB
  clear hk
  go_enter Try.func17, Try.ntmps17
  go_wp2_with (go_at_call 21; refine hB.mono ?_; rintro e w1 ⟨v', rfl, hb, hr, hf⟩)
  obtain ⟨A, c, rfl, h1, h2, h3, h4, h5⟩ := hb
  unfold maxLen at h2
  go_wp2
  go_loop [5, 7] (fun n i => ∃ j : Nat, j ≤ l.length ∧ i = .int .i64 j ∧ n = .int .u32 (be (l.take j))) (fun _ i => l.length - (intOf i).toNat)
  case atStart => exact ⟨0, Nat.zero_le _, rfl, rfl⟩
  case round =>
    obtain ⟨j, hj, rfl, rfl⟩ := hrel
    by_cases hlt : j < l.length
    · cases A with
      | none => have := h3 rfl; omega
      | some a =>
        have hc := (h5 a rfl (by omega)).2.2.2 j hlt
        obtain ⟨hb0, hb1⟩ := be_range (l.take j)
        obtain ⟨hc0, hc1⟩ := h4 (l.getD j 0) (getD_mem hlt)
        have hstep := be_snoc l j hlt
        generalize be (l.take j) = n at *
        generalize l.getD j 0 = x at *
        have Hs := Lib.hid hstep
        clear hstep h5 h4
        go_wp2
        go_round
        case rel => exact ⟨j + 1, by omega, by go_num, by rw [be_or hc0 hc1, Hs.out]⟩
        case measure => simp [intOf]; omega
    · obtain rfl : j = l.length := by omega
      go_wp2
      go_ret
      exact ⟨rfl, hr, hf⟩
end Go.Proofs.Ytgfhhnmhpncnlaa
