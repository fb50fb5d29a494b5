/-
  Split's walk. Condition: what comes in is a slice of bytes of less than 4 * 10^12.
-/
import Derived.Test.YtgfhhnmhpncnlaaV
namespace Go.Proofs.Ytgfhhnmhpncnlaa
open Go.RowKit
set_option linter.unusedVariables false
set_option linter.unusedSimpArgs false

theorem OR.mono {w : World} {S S' : Nat → Prop} {v : Value} {rs : List (Int × List Int)} (h : OR w S v rs) (hs : ∀ b, S' b → S b) : OR w S' v rs := by
  obtain ⟨us, h1, h2, h3⟩ := h
  exact ⟨us, h1, h2, fun j u hj => (h3 j u hj).mono_l rfl (fun b hb => hb.imp id (hs b))⟩
theorem OR.top {w : World} {S : Nat → Prop} {v : Value} {rs : List (Int × List Int)} (h : OR w S v rs) : OR w (fun b => S b ∨ w.heap.size ≤ b) v rs := by
  obtain ⟨us, h1, h2, h3⟩ := h
  exact ⟨us, h1, h2, fun j u hj => (h3 j u hj).old.mono_l rfl (fun b hb => by rcases hb with h | h | h <;> simp [h])⟩

/-- Where Split stands: its reader and its list; g and what lies from N on may be written. -/
structure Sp (w0 w : World) (g M N : Nat) (xr u : Value) (acc : List (Int × List Int)) (r : Rd) : Prop where
  rd : RdAt w g xr r
  xs : Bs w (fun b => b = g ∨ M ≤ b) xr r.p
  o : OR w (fun b => b = g ∨ N ≤ b) u acc
  lo : Lo M u
  lt : ∀ b, u.ownBlock = some b → b < N
  bel : Below w0.heap.size w0 w
  gM : g < M
  MN : M ≤ N
  Nw : N ≤ w.heap.size
  wg : w0.heap.size ≤ g
namespace Sp
variable {w0 w w' : World} {g M N : Nat} {xr u : Value} {acc : List (Int × List Int)} {r r' : Rd}
theorem drewN (h : Sp w0 w g M N xr u acc r) (n : Nat) : Sp w0 (w.drewN n) g M N xr u acc r :=
  have hf : Fr (fun _ => False) w (w.drewN n) := (Fr.refl _ _).drewN n
  ⟨h.rd.drewN n, h.xs.fr hf (fun _ _ h => h.elim), h.o.fr hf (fun _ _ h => h) (fun _ h => h.elim), h.lo, h.lt, below_drewN' h.bel n, h.gM, h.MN, h.Nw, h.wg⟩
theorem go (h : Sp w0 w g M N xr u acc r) (hr : RdAt w' g xr r') (hf : Fr (fun b => b = g) w w') (hp : r'.p = r.p) : Sp w0 w' g M N xr u acc r' :=
  ⟨hr, hp ▸ h.xs.fr hf (fun b _ hb => .inl hb), h.o.fr hf (fun b hb hg => by have := h.lo b hb; have := h.gM; omega) (fun b hb => .inl hb), h.lo, h.lt, h.bel.trans (hf.belowG h.wg h.bel.size), h.gM, h.MN, Nat.le_trans h.Nw hf.size, h.wg⟩
/-- What is written lies from N on. -/
theorem up (h : Sp w0 w g M N xr u acc r) {S : Nat → Prop} (hf : Fr S w w') (hS : ∀ b, S b → N ≤ b) : Sp w0 w' g M N xr u acc r :=
  have hM := h.MN
  have hg := h.gM
  have hwg := h.wg
  ⟨h.rd.hasFr2 h.xs hf (fun hb => by have := hS _ hb; omega) (fun b _ hb => .inr (by have := hS _ hb; omega)), h.xs.fr hf (fun b _ hb => .inr (by have := hS _ hb; omega)), h.o.fr hf (fun b hb hs => by have := hS _ hs; have := h.lt b hb; omega) (fun b hb => .inr (hS b hb)), h.lo, h.lt,
    h.bel.trans ⟨hf.os, hf.tape, hf.output, hf.size, fun k hk => hf.block k (by have := h.bel.size; omega) (fun hb => by have := hS _ hb; omega)⟩, h.gM, h.MN, Nat.le_trans h.Nw hf.size, h.wg⟩
theorem top (h : Sp w0 w g M N xr u acc r) : Sp w0 w g M w.heap.size xr u acc r :=
  ⟨h.rd, h.xs, h.o.top.mono (fun b hb => hb.elim (fun h => .inl (.inl h)) .inr), h.lo, h.o.lt, h.bel, h.gM, Nat.le_trans h.MN h.Nw, Nat.le_refl _, h.wg⟩
theorem app {u' : Value} {acc' : List (Int × List Int)} (h : Sp w0 w g M N xr u acc r) (ho : OR w' (fun b => b = g) u' acc') (hn : Nx w u u') (hf : FrV u w w') : Sp w0 w' g M w'.heap.size xr u' acc' r :=
  have hM := h.MN
  have hg := h.gM
  have hwg := h.wg
  ⟨h.rd.hasFr2 h.xs hf (fun hb => by have := h.lo _ hb; omega) (fun b _ hb => .inr (h.lo _ hb)), h.xs.fr hf (fun b _ hb => .inr (h.lo _ hb)), ho.top, h.lo.next hn (Nat.le_trans h.MN h.Nw), ho.lt,
    h.bel.trans (hf.belowB (fun b hb => by have := h.lo _ hb; omega) h.bel.size), h.gM, Nat.le_trans h.MN (Nat.le_trans h.Nw hf.size), Nat.le_refl _, h.wg⟩
end Sp
def rdAt (g : Nat) (w : World) : Nat := (intOf ((w.cell? ⟨g, 1, none⟩).getD (.int .i64 0))).toNat
theorem RdAt.at {w : World} {g : Nat} {xr : Value} {r : Rd} (h : RdAt w g xr r) : rdAt g w = r.at_ := by unfold rdAt; rw [h.c1]; simp [intOf]
theorem split_step {p : List Int} {at_ : Nat} {t : Int} {rest : List Int} (hB : isB p) (hd : p.drop at_ = t :: rest) (ht : t ≠ 0) (k : Nat) (acc : List (Int × List Int)) :
    ∃ m2 r2 n m3 at3 e3 s3, (⟨p, at_ + 1, 0, 0⟩ : Rd).bytes 1 = (m2, r2) ∧ be m2 % 256 = n ∧ r2.p = p ∧ r2.bytes n = (m3, ⟨p, at3, e3, s3⟩) ∧ 0 ≤ n ∧ n < 256 ∧
      ((e3 = 3 ∧ spl (k + 1) acc (t :: rest) = (acc, 52)) ∨ (e3 = 0 ∧ s3 = 0 ∧ spl (k + 1) acc (t :: rest) = spl k (acc ++ [(t, m3)]) (p.drop at3) ∧ at_ < at3 ∧ at3 ≤ p.length)) := by
  obtain ⟨-, h2, h3⟩ := bytes_one hd
  cases rest with
  | nil =>
    have hl : p.length = at_ + 1 := by
      have := congrArg List.length h2
      simp at this
      omega
    refine ⟨[], ⟨p, at_ + 1, 3, (at_ + 1 : Nat)⟩, 0, [], at_ + 1, 3, (at_ + 1 : Nat), bytes_bad (by decide) (by omega) (by omega), by decide, rfl, bytes_err (by decide), by decide, by decide, .inl ⟨rfl, ?_⟩⟩
    simp [spl, ht]
  | cons n q =>
    obtain ⟨k1, k2, k3⟩ := bytes_one h2
    have hn := hB n (List.mem_of_mem_drop (i := at_ + 1) (by rw [h2]; simp))
    have hql : p.length = at_ + 1 + 1 + q.length := by
      have := congrArg List.length k2
      simp at this
      omega
    by_cases hc : n > q.length
    · refine ⟨[n], ⟨p, at_ + 1 + 1, 0, 0⟩, n, [], at_ + 1 + 1, 3, (at_ + 1 + 1 : Nat), k1, be_one hn.1 hn.2, rfl, bytes_bad hn.1 (by omega) (by omega), hn.1, hn.2, .inl ⟨rfl, ?_⟩⟩
      simp only [spl, if_neg ht]
      rw [if_pos hc]
    · obtain ⟨m, rfl⟩ : ∃ m : Nat, n = m := ⟨n.toNat, by omega⟩
      refine ⟨[(m : Int)], ⟨p, at_ + 1 + 1, 0, 0⟩, m, q.take m, at_ + 1 + 1 + m, 0, 0, k1, be_one hn.1 hn.2, rfl, ?_, hn.1, hn.2, .inr ⟨rfl, rfl, ?_, by omega, by omega⟩⟩
      · rw [bytes_ok (by omega), k2]
      · simp only [spl, if_neg ht]
        rw [if_neg hc, Int.toNat_natCast, ← List.drop_drop, k2]

set_option maxRecDepth 100000 in
set_option maxHeartbeats 3200000 in
theorem Split_any {w : World} {S : Nat → Prop} {x : Value} {p : List Int} (h : Bs w S x p) (hl : p.length ≤ 4000000000000) :
    Calls Try.prog 45 #[x] w fun e w' => ∃ v', e = .returned (.tuple #[v', .int .i64 (spl p.length [] p).2]) ∧ OR w' (fun _ => False) v' (spl p.length [] p).1 ∧ Below w.heap.size w w' := by
  obtain ⟨A, c, rfl, -⟩ := id h
  have hB := h.news.2.2.2.1
  have hN := New_any h (by omega)
  have hB := Lib.hid hB
  clear h
  go_enter Try.func45, Try.ntmps45
  go_wp2_with fail
  refine hN.mono ?_
  rintro e w1 ⟨g, xr, rfl, hg, hr, hq, fr⟩
  have b1 := fr.below (fun _ h => h.elim)
  have hgl := (Array.getElem?_eq_some_iff.1 hr.row).1
  have sp1 : Sp w w1 g w1.heap.size w1.heap.size xr (.slice none 0 0) [] (Rd.new p) :=
    ⟨hr, (hr.bytes.old.mono_l rfl (fun b hb => hb)), OR.nil _ _, Lo.nil _, (fun b hb => by cases hb), b1, hgl, Nat.le_refl _, Nat.le_refl _, hg⟩
  generalize w1.heap.size = M at sp1
  clear hr hq fr b1 hgl hN
  go_wp2_with fail
  go_loopw [4] (fun u wr => ∃ (k : Nat) (acc : List (Int × List Int)) (at_ : Nat), Hid (spl p.length [] p = spl k acc (p.drop at_)) ∧ p.length - at_ ≤ k ∧ acc.length ≤ at_ ∧ Sp w wr g M wr.heap.size xr u acc ⟨p, at_, 0, 0⟩) (fun _ wr => p.length - rdAt g wr)
  case atStart => exact ⟨p.length, [], 0, Lib.hid rfl, by omega, by simp, sp1.top⟩
  case round =>
    obtain ⟨k, acc, at_, hs, hk, hacc, sp⟩ := hrel
    have hle := sp.rd.le
    simp only at hle
    have HL : Calls Try.prog 29 _ _ _ := Left_any sp.rd
    have hm := Lib.hid sp.rd.at
    by_cases hlt : at_ < p.length
    · have hk0 : decide (0 < (p.length : Int) - at_) = true := decide_eq_true (by omega)
      obtain ⟨t, hdt⟩ : ∃ t, p.drop at_ = t :: p.drop (at_ + 1) := ⟨p[at_], List.drop_eq_getElem_cons hlt⟩
      have htB := hB.out t (List.mem_of_mem_drop (i := at_) (by rw [hdt]; simp))
      obtain ⟨q1, q2, -⟩ := bytes_one hdt
      obtain ⟨k', rfl⟩ : ∃ k', k = k' + 1 := ⟨k - 1, by omega⟩
      have hs := hs.out
      rw [hdt] at hs
      have hlen : (acc.length + 1) * 32 ≤ 140737488355328 := by omega
      have hss : t ≠ 0 → _ := fun ht => split_step hB.out hdt ht k' acc
      have hs := Lib.hid hs
      have hsx := Lib.hid hss
      clear hss
      have q1 := Lib.hid q1
      clear hdt q2
      go_wp2_with fail
      refine HL.mono ?_
      rintro e w2 ⟨rfl, n2, hw2⟩
      have sp2 := sp.drewN n2
      rw [← hw2] at sp2
      have HU := U8_any sp2.rd (by show p.length ≤ _; omega) q1.out
      rw [be_one htB.1 htB.2] at HU
      clear HL hw2
      go_wp2_with fail
      refine HU.mono ?_
      rintro e w3 ⟨rfl, hr3, f3⟩
      have sp3 := (sp2.go hr3 f3 rfl).top
      have hal : Fr (fun _ => False) w3 (w3.alloc (.cells #[.int .u8 t, .slice none 0 0] 82)) := (Fr.refl _ w3).alloc _
      have sp4 := sp3.up hal (fun _ h => h.elim)
      have row4 : (w3.alloc (.cells #[.int .u8 t, .slice none 0 0] 82)).heap[w3.heap.size]? = some (.cells #[.int .u8 t, .slice none 0 0] 82 (0, 0)) := heap_alloc_new w3 _
      have hgk : g ≠ w3.heap.size := by have := sp3.gM; have := sp3.MN; omega
      clear HU hr3 f3 sp2 sp hal
      by_cases k0 : t = 0
      · subst k0
        go_wp2_with fail
        refine (Why_any sp4.rd).mono ?_
        rintro e w5 ⟨rfl, n5, hw5⟩
        have sp5 := sp4.drewN n5
        rw [← hw5] at sp5
        have row5 : w5.heap[w3.heap.size]? = some (.cells #[.int .u8 0, .slice none 0 0] 82 (0, 0)) := by rw [hw5]; exact row4
        have z0 : w5.cell? ⟨w3.heap.size, 0, none⟩ = some (.int .u8 0) := (row_cell row5).trans rfl
        have z1 : w5.cell? ⟨w3.heap.size, 1, none⟩ = some (.slice none 0 0) := (row_cell row5).trans rfl
        clear row4 row5 hw5 sp4 sp3
        have hnil : Bs w5 (fun b => u4.ownBlock = some b ∨ b = g) (.slice none 0 0) [] := (Ob.nil _).bs (fun b hb => by cases hb)
        go_wp2_with (at_builtin; refine wpList_appR rfl (.tmp 34) (.tmp 36) rfl rfl (sp5.o.mono (fun b hb => .inl hb)) rfl hnil hlen ?_; intro v6 w6 o6 n6 f6)
        have sp6 := sp5.app o6 n6 f6
        go_roundw
        case rel => exact ⟨k', acc ++ [(0, [])], at_ + 1, Lib.hid (by rw [hs.out]; simp [spl]), by omega, by simp; omega, sp6⟩
        case measure => rw [sp6.rd.at, hm.out]; simp only; omega
      · have kb : (t == 0) = false := by simp [k0]
        obtain ⟨m2, r2, n, m3, at3, e3, s3, i1, i2, i3, i4, i5, i6, i7⟩ := hsx.out k0
        have i4 := Lib.hid i4; have i8 := Lib.hid i7; clear i7; have i3 := Lib.hid i3
        have HU := U8_any sp4.rd (by show p.length ≤ _; omega) i1
        rw [i2] at HU
        clear i1 i2
        go_wp2_with fail
        refine HU.mono ?_
        rintro e w5 ⟨rfl, hr5, f5⟩
        have sp5 := sp4.go hr5 f5 i3.out
        have row5 := f5.obj row4 (fun h => hgk h.symm)
        have HB := Bytes_any sp5.rd n (by rw [i3.out]; omega)
        rw [i4.out] at HB
        clear HU
        go_wp2_with fail
        refine HB.mono ?_
        rintro e w6 ⟨v6, rfl, hb6, hr6, f6⟩
        have sp6 := sp5.go hr6 f6 i3.out.symm
        have row6 := f6.obj row5 (fun h => hgk h.symm)
        have z1 : w6.cell? ⟨w3.heap.size, 1, none⟩ = some (.slice none 0 0) := (row_cell row6).trans rfl
        have zf : w6.frozen? ⟨w3.heap.size, 1, none⟩ = false := row_free row6
        have hsz5 : w3.heap.size < w5.heap.size := (Array.getElem?_eq_some_iff.1 row5).1
        obtain ⟨A6, c6, rfl, -⟩ := id hb6
        clear HB
        go_wp2_with fail
        have f7 : Fr (fun b => b = w3.heap.size) w6 (w6.setCell ⟨w3.heap.size, 1, none⟩ (.slice A6 m3.length c6)) := Fr.setCell (S := fun b => b = w3.heap.size) (Fr.refl _ w6) (p := ⟨w3.heap.size, 1, none⟩) (.inl rfl) _
        have sp7 := sp6.up f7 (fun b hb => by omega)
        have row7 := row_set row6 (.slice A6 m3.length c6) (i := 1) rfl
        refine (Why_any sp7.rd).mono ?_
        rintro e w8 ⟨rfl, n8, hw8⟩
        have sp8 := sp7.drewN n8
        rw [← hw8] at sp8
        have row8 : w8.heap[w3.heap.size]? = some (.cells #[.int .u8 t, .slice A6 m3.length c6] 82 (0, 0)) := by rw [hw8]; exact row7
        have hb6' : Bs w6 (fun b => b < w5.heap.size) (.slice A6 m3.length c6) m3 := hb6
        have hb8 : Bs w8 (fun b => u4.ownBlock = some b ∨ b = g) (.slice A6 m3.length c6) m3 := by
          rw [hw8]
          refine ((hb6'.fr f7 (fun b _ hb => by subst hb; exact hsz5)).fr ((Fr.refl (fun _ => False) _).drewN n8) (fun _ _ h => h.elim)).mono_l rfl (fun b hb => ?_)
          rcases hb with hb | hb
          · have := sp8.lt b hb; omega
          · have := sp8.gM; have := sp8.MN; omega
        have z0 : w8.cell? ⟨w3.heap.size, 0, none⟩ = some (.int .u8 t) := (row_cell row8).trans rfl
        have z2 : w8.cell? ⟨w3.heap.size, 1, none⟩ = some (.slice A6 m3.length c6) := (row_cell row8).trans rfl
        clear row4 row5 row6 row7 row8 z1 zf hw8 sp7 sp6 sp5 sp4 sp3 hb6 hb6' f5 f6 f7 hr5 hr6
        clear hsx
        rcases i8.out with ⟨rfl, hsp⟩ | ⟨rfl, rfl, hsp, j1, j2⟩
        · have hsp := Lib.hid hsp
          go_wp2_with fail
          go_ret2
          rw [hs.out, hsp.out]
          exact ⟨_, rfl, sp8.o.mono (fun b hb => hb.elim), sp8.bel⟩
        · have hsp := Lib.hid hsp
          go_wp2_with (at_builtin; refine wpList_appR rfl (.tmp 34) (.tmp 36) rfl rfl (sp8.o.mono (fun b hb => .inl hb)) rfl hb8 hlen ?_; intro v9 w9 o9 n9 f9)
          have sp9 := sp8.app o9 n9 f9
          go_roundw
          case rel => exact ⟨k', acc ++ [(t, m3)], at3, Lib.hid (by rw [hs.out, hsp.out]), by omega, by simp; omega, sp9⟩
          case measure => rw [sp9.rd.at, hm.out]; simp only; omega
    · obtain rfl : at_ = p.length := by omega
      have hk0 : decide (0 < (p.length : Int) - p.length) = false := decide_eq_false (by omega)
      go_wp2_with fail
      refine HL.mono ?_
      rintro e w2 ⟨rfl, n2, hw2⟩
      have sp2 := sp.drewN n2
      rw [← hw2] at sp2
      have e0 : spl p.length [] p = (acc, 0) := by rw [hs.out, List.drop_length]; cases k <;> rfl
      have e0 := Lib.hid e0
      clear HL hw2 hs
      go_wp2_with fail
      go_ret2
      rw [e0.out]
      exact ⟨_, rfl, sp2.o.mono (fun b hb => hb.elim), sp2.bel⟩
end Go.Proofs.Ytgfhhnmhpncnlaa
