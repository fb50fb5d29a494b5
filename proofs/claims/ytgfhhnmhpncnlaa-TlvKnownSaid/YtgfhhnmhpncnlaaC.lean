/-
  The reader of octet: numbers, and what is made. Condition: its row of cells is known.
-/
import Derived.Test.YtgfhhnmhpncnlaaB
namespace Go.Proofs.Ytgfhhnmhpncnlaa
open Go.RowKit
set_option linter.unusedVariables false
set_option linter.unusedSimpArgs false

/-- The number that bytes are, in 32 bits. -/
def beStep (n c : Int) : Int := (n * 256 + c) % 4294967296
def be (l : List Int) : Int := l.foldl beStep 0

theorem wraps_u32 (n : Int) (h₀ : 0 ≤ n) (h₁ : n < 2 ^ 32) : IntKind.u32.wrap n = n := by rw [IntKind.wrap_u32]; omega
theorem u32_or8 {x y : Int} (hx₀ : 0 ≤ x) (hx : x % 256 = 0) (hx₁ : x < 4294967296) (h₀ : 0 ≤ y) (h₁ : y < 256) : bits .or .u32 x y = x + y :=
  bits_join .u32 32 (by decide) wraps_u32 8 x y hx₀ hx hx₁ h₀ h₁ (by omega)
theorem be_or {n x : Int} (h0 : 0 ≤ x) (h1 : x < 256) : bits .or .u32 (n * 256 % 4294967296) x = beStep n x := by
  rw [u32_or8 (by omega) (by omega) (by omega) h0 h1]; unfold beStep; omega
theorem be_range (l : List Int) : 0 ≤ be l ∧ be l < 4294967296 := by
  rcases List.eq_nil_or_concat l with rfl | ⟨m, x, rfl⟩
  · unfold be; simp
  · unfold be; rw [List.concat_eq_append, List.foldl_append]; simp only [List.foldl_cons, List.foldl_nil, beStep]; omega
theorem getD_mem {l : List Int} {j : Nat} (h : j < l.length) : l.getD j 0 ∈ l := by
  rw [List.getD_eq_getElem?_getD, List.getElem?_eq_getElem h]; exact List.getElem_mem h
theorem be_snoc (l : List Int) (j : Nat) (h : j < l.length) : be (l.take (j + 1)) = beStep (be (l.take j)) (l.getD j 0) := by
  unfold be
  rw [List.take_succ_eq_append_getElem h, List.foldl_append, List.getD_eq_getElem?_getD, List.getElem?_eq_getElem h]; rfl

set_option maxHeartbeats 800000 in
theorem rnum_any {w : World} {g : Nat} {v : Value} {r : Rd} (h : RdAt w g v r) (k : Int) (hl : r.p.length ≤ 140737488355328) {l : List Int} {r' : Rd} (hk : r.bytes k = (l, r')) :
    Calls Try.prog 49 #[.pointer (some ⟨g, 0, none⟩), .int .i64 k] w fun e w' => e = .returned (.int .u32 (be l)) ∧ RdAt w' g v r' ∧ Fr (fun b => b = g) w w' := by
  have hB := Bytes_any h k hl
  rw [hk] at hB
  clear hk
  go_enter Try.func49, Try.ntmps49
  go_wp2_with (go_at_call 20; refine hB.mono ?_; rintro e w1 ⟨v', rfl, hb, hr, hf⟩)
  obtain ⟨A, c, rfl, h1, h2, h3, h4, h5⟩ := hb
  unfold maxLen at h2
  go_wp2
  go_loop [4, 11] (fun n i => ∃ j : Nat, j ≤ l.length ∧ i = .int .i64 j ∧ n = .int .u32 (be (l.take j))) (fun _ i => l.length - (intOf i).toNat)
  case atStart => exact ⟨0, Nat.zero_le _, rfl, rfl⟩
  case round =>
    obtain ⟨j, hj, rfl, rfl⟩ := hrel
    by_cases hlt : j < l.length
    · cases A with
      | none => have := h3 rfl; omega
      | some a =>
        have hc := (h5 a rfl (by omega)).2.2.2 j hlt
        obtain ⟨hb0, hb1⟩ := be_range (l.take j)
        obtain ⟨hc0, hc1⟩ := h4 (l.getD j 0) (getD_mem hlt)
        have hstep := be_snoc l j hlt
        generalize be (l.take j) = n at *
        generalize l.getD j 0 = x at *
        have Hs := Lib.hid hstep
        clear hstep h5 h4
        go_wp2
        go_round
        case rel => exact ⟨j + 1, by omega, by go_num, by rw [be_or hc0 hc1, Hs.out]⟩
        case measure => simp [intOf]; omega
    · obtain rfl : j = l.length := by omega
      go_wp2
      go_ret
      exact ⟨rfl, hr, hf⟩

set_option maxHeartbeats 400000 in
theorem U8_any {w : World} {g : Nat} {v : Value} {r : Rd} (h : RdAt w g v r) (hl : r.p.length ≤ 140737488355328) {l : List Int} {r' : Rd} (hk : r.bytes 1 = (l, r')) :
    Calls Try.prog 16 #[.pointer (some ⟨g, 0, none⟩)] w fun e w' => e = .returned (.int .u8 (be l % 256)) ∧ RdAt w' g v r' ∧ Fr (fun b => b = g) w w' := by
  have H := rnum_any h 1 hl hk
  clear hk
  go_enter Try.func16, Try.ntmps16
  go_wp2_with (go_at_call 49; refine H.mono ?_; rintro e w1 ⟨rfl, hr, hf⟩)
  go_ret
  exact ⟨rfl, hr, hf⟩

set_option maxHeartbeats 400000 in
theorem U16_any {w : World} {g : Nat} {v : Value} {r : Rd} (h : RdAt w g v r) (hl : r.p.length ≤ 140737488355328) {l : List Int} {r' : Rd} (hk : r.bytes 2 = (l, r')) :
    Calls Try.prog 18 #[.pointer (some ⟨g, 0, none⟩)] w fun e w' => e = .returned (.int .u16 (be l % 65536)) ∧ RdAt w' g v r' ∧ Fr (fun b => b = g) w w' := by
  have H := rnum_any h 2 hl hk
  clear hk
  go_enter Try.func18, Try.ntmps18
  go_wp2_with (go_at_call 49; refine H.mono ?_; rintro e w1 ⟨rfl, hr, hf⟩)
  go_ret
  exact ⟨rfl, hr, hf⟩

set_option maxHeartbeats 400000 in
theorem U32_any {w : World} {g : Nat} {v : Value} {r : Rd} (h : RdAt w g v r) (hl : r.p.length ≤ 140737488355328) {l : List Int} {r' : Rd} (hk : r.bytes 4 = (l, r')) :
    Calls Try.prog 19 #[.pointer (some ⟨g, 0, none⟩)] w fun e w' => e = .returned (.int .u32 (be l)) ∧ RdAt w' g v r' ∧ Fr (fun b => b = g) w w' := by
  have H := rnum_any h 4 hl hk
  clear hk
  go_enter Try.func19, Try.ntmps19
  go_wp2_with (go_at_call 49; refine H.mono ?_; rintro e w1 ⟨rfl, hr, hf⟩)
  go_ret
  exact ⟨rfl, hr, hf⟩

theorem RdAt.hasFr {w w' : World} {g : Nat} {v : Value} {r : Rd} (h : RdAt w g v r) {S : Nat → Prop} (hf : Fr S w w') (hg : ¬ S g) (hv : ∀ b, b < w.heap.size → S b → b = g) : RdAt w' g v r :=
  ⟨hf.obj h.row hg, h.bytes.fr hf hv, h.le⟩

set_option maxHeartbeats 400000 in
theorem Rest_any {w : World} {g : Nat} {v : Value} {r : Rd} (h : RdAt w g v r) (hl : r.p.length ≤ 140737488355328) :
    Calls Try.prog 22 #[.pointer (some ⟨g, 0, none⟩)] w fun e w' => ∃ v', e = .returned v' ∧ BsF w w' v' (r.bytes ((r.p.length : Int) - r.at_)).1 ∧ RdAt w' g v (r.bytes ((r.p.length : Int) - r.at_)).2 ∧ Fr (fun b => b = g) w w' := by
  go_enter Try.func22, Try.ntmps22
  go_wp2_with (first | (go_at_call 29; refine (Left_any h).mono ?_; rintro e w1 ⟨rfl, n, rfl⟩) | (go_at_call 20; refine (Bytes_any (h.drewN _) ((r.p.length : Int) - r.at_) hl).mono ?_; rintro e w1 ⟨v1, rfl, hb, hr, hf⟩))
  go_ret
  exact ⟨_, rfl, hb.mono_l rfl (fun b hb => hb), hr, ((Fr.refl _ w).drewN n).trans hf (fun b hb => .inl hb)⟩

theorem Bs.old {w : World} {S : Nat → Prop} {v : Value} {l : List Int} (h : Bs w S v l) : Bs w (fun b => S b ∨ w.heap.size ≤ b) v l := by
  obtain ⟨A, c, h0, h1, h2, h3, h4, h5⟩ := h
  refine ⟨A, c, h0, h1, h2, h3, h4, fun a ha hn => ?_⟩
  obtain ⟨p1, p2, p3, p4⟩ := h5 a ha hn
  exact ⟨p1, fun h => h.elim p2 (fun h => by omega), p3, p4⟩
theorem RdAt.hasFr2 {w w' : World} {g : Nat} {v : Value} {r : Rd} (h : RdAt w g v r) {S S' : Nat → Prop} (hb : Bs w S v r.p) (hf : Fr S' w w') (hg : ¬ S' g) (hv : ∀ b, b < w.heap.size → S' b → S b) : RdAt w' g v r := by
  refine ⟨hf.obj h.row hg, ?_, h.le⟩
  obtain ⟨A, c, h0, h1, h2, h3, h4, h5⟩ := h.bytes
  obtain ⟨A', c', h0', -, -, -, -, h5'⟩ := hb
  obtain ⟨rfl, -, -⟩ : A = A' ∧ r.p.length = r.p.length ∧ c = c' := by rw [h0] at h0'; injection h0' with a b c; exact ⟨a, b, c⟩
  refine ⟨A, c, h0, h1, h2, h3, h4, fun a ha hn => ?_⟩
  obtain ⟨p1, p2, p3, p4⟩ := h5 a ha hn
  exact ⟨p1, p2, Nat.lt_of_lt_of_le p3 hf.size, fun j hj => hf.cell (p4 j hj) (by rw [add_block]; exact fun h => (h5' a ha hn).2.1 (hv _ p3 h))⟩

def Rd.new (p : List Int) : Rd := ⟨p, 0, 0, 0⟩

set_option maxHeartbeats 400000 in
theorem New_any {w : World} {S : Nat → Prop} {v : Value} {l : List Int} (h : Bs w S v l) (hl : l.length ≤ 140737488355328) :
    Calls Try.prog 14 #[v] w fun e w' => ∃ g v', e = .returned (.pointer (some ⟨g, 0, none⟩)) ∧ w.heap.size ≤ g ∧ RdAt w' g v' (Rd.new l) ∧ BsF w w' v' l ∧ Fr (fun _ => False) w w' := by
  go_enter Try.func14, Try.ntmps14
  go_wp2_with (go_at_call 48; refine (Clone_any h hl).mono ?_; rintro e w1 ⟨v1, rfl, hb, hf⟩; obtain ⟨A, c, rfl, -⟩ := id hb)
  go_ret
  have hal : Fr (fun _ => False) w1 (w1.alloc (.cells #[.slice A l.length c, .int .i64 0, .int .i64 0, .int .i64 0] 85)) := (Fr.refl _ w1).alloc _
  refine ⟨_, .slice A l.length c, rfl, hf.size, ⟨heap_alloc_new _ _, ?_, Nat.zero_le _⟩, hb.fr hal (fun _ _ h => h.elim), hf.trans hal (fun _ h => h.elim)⟩
  obtain ⟨A', c', hv, h1, h2, h3, h4, h5⟩ := hb
  refine ⟨A', c', hv, h1, h2, h3, h4, fun a ha hn => ?_⟩
  obtain ⟨p1, p2, p3, p4⟩ := h5 a ha hn
  exact ⟨p1, Nat.ne_of_lt p3, Nat.lt_of_lt_of_le p3 hal.size, fun j hj => hal.cell (p4 j hj) (fun h => h)⟩
end Go.Proofs.Ytgfhhnmhpncnlaa
