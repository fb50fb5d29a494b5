/-
  Same; lists of pieces opened and cut. Condition: lists of pieces are read.
-/
import Derived.Test.YtgfhhnmhpncnlaaW
namespace Go.Proofs.Ytgfhhnmhpncnlaa
open Go.ChangeShapes Go.WideShapes Go.ChangeAt Go.RowKit
set_option linter.unusedVariables false
set_option linter.unusedSimpArgs false

set_option maxRecDepth 100000 in
set_option maxHeartbeats 3200000 in
theorem Same_any {w : World} {S1 S2 : Nat → Prop} {x y : Value} {rs : List (Int × List Int)} (h1 : RawsB w S1 x rs) (h2 : RawsB w S2 y rs) :
    Calls Try.prog 46 #[x, y] w fun e w' => e = .returned (.bool true) ∧ ∃ n, w' = w.drewN n := by
  obtain ⟨A, c, rfl, hmx, hat⟩ := h1.at_
  obtain ⟨A2, c2, rfl, -, hat2⟩ := h2.at_
  have hat := Lib.hid hat
  have hat2 := Lib.hid hat2
  go_enter Try.func46, Try.ntmps46
  go_wp2
  go_loopw [5] (fun i wr => ∃ j m : Nat, wr = w.drewN m ∧ j ≤ rs.length ∧ i = .int .i64 j) (fun i _ => rs.length - (intOf i).toNat)
  case atStart => exact ⟨0, 0, rfl, Nat.zero_le _, rfl⟩
  case round =>
    obtain ⟨j, m, rfl, hj, rfl⟩ := hrel
    by_cases hlt : j < rs.length
    · obtain ⟨b, o, u, rfl, p1, p2, p3, p4, p5⟩ := hat.out j hlt
      obtain ⟨b2, o2, u2, rfl, r1, r2, r3, r4, r5⟩ := hat2.out j hlt
      have t1 : ∀ n, (convert 22 9 u).run Try.prog (w.drewN n) = .ok (.string (strOfNums (rs[j]).2)) (w.drewN n) := fun n => conv_str (p5.fr (S' := fun _ => False) ((Fr.refl _ _).drewN n) (fun _ _ h => h.elim))
      have t2 : ∀ n, (convert 22 9 u2).run Try.prog (w.drewN n) = .ok (.string (strOfNums (rs[j]).2)) (w.drewN n) := fun n => conv_str (r5.fr (S' := fun _ => False) ((Fr.refl _ _).drewN n) (fun _ _ h => h.elim))
      clear p5 r5 p1 p2 r1 r2
      generalize rs[j] = y at *
      obtain ⟨ty, l⟩ := y
      simp only at p3 r3 t1 t2
      go_wp2_with fail
      go_quiet (fail)
      go_wp2_with fail
      go_roundw
      case rel => exact ⟨j + 1, m + nq, by first | rfl | rw [World.drewN_drewN], by omega, by go_num⟩
      case measure => simp [intOf]; omega
    · obtain rfl : j = rs.length := by omega
      go_wp2
      go_ret
      exact ⟨rfl, m, rfl⟩
theorem OR.raws {w : World} {S : Nat → Prop} {v : Value} {rs : List (Int × List Int)} (h : OR w S v rs) : RawsB w (fun b => w.heap.size ≤ b) v rs := by
  have hlt := h.lt
  obtain ⟨us, h1, h2, h3⟩ := h
  refine ⟨us, h1, ?_, fun j u hj => (h3 j u hj).out⟩
  obtain ⟨hl, ⟨rfl, hn⟩ | ⟨g, cap, cur, rfl, hbg, hg, hnc, hcm, hcs, ht⟩⟩ := id h2
  · exact ⟨hl, none, 0, by rw [hn], by omega, by decide, fun _ => rfl, fun a h => by cases h⟩
  · refine ⟨hl, some ⟨g, 0, none⟩, cap, rfl, hnc, hcm, (fun h => by cases h), fun a ha hn => ?_⟩
    obtain rfl : (⟨g, 0, none⟩ : Addr) = a := by injection ha
    have := hlt g rfl
    exact ⟨g, 0, rfl, by omega, this, fun j u hj => by have := h2.cells (g := g) rfl j u hj; rwa [Addr.add_lit] at this⟩
theorem RawsB.take {w : World} {S : Nat → Prop} {A : Option Addr} {n c : Nat} {rs : List (Int × List Int)} (h : RawsB w S (.slice A n c) rs) {j : Nat} (hj : j ≤ rs.length) : RawsB w S (.slice A j c) (rs.take j) := by
  obtain ⟨us, h1, ⟨hl, A', c', hv, q1, q2, q3, q5⟩, h3⟩ := h
  injection hv with e1 e2 e3
  subst e1 e2 e3
  have hlen : (rs.take j).length = j := by simp; omega
  have e : rawCs (rs.take j) (us.take j) = (rawCs rs us).take j := by unfold rawCs; rw [List.take_zipWith]
  have hz : (rawCs rs us).length = rs.length := by simp [rawCs, h1]
  have hall : ∀ c ∈ rawCs rs us, c.length = 2 := by
    intro c hc
    obtain ⟨i, hi, rfl⟩ := List.mem_iff_getElem.1 hc
    simp [rawCs]
  have hfl : ∀ (L : List (List Value)), (∀ c ∈ L, c.length = 2) → L.flatten.length = L.length * 2 := by
    intro L; induction L with
    | nil => simp
    | cons c l ih => intro h; rw [List.flatten_cons, List.length_append, ih (fun c hc => h c (by simp [hc])), h c (by simp), List.length_cons, Nat.add_mul]; omega
  refine ⟨us.take j, by simp [h1], ⟨by rw [e, hfl _ (fun c hc => hall c (List.mem_of_mem_take hc)), List.length_take, hlen, hz]; congr 1; omega, A, c, by rw [hlen], by omega, q2, q3, fun a ha hn => ?_⟩, fun i u hi => ?_⟩
  · obtain ⟨b, o, r1, r2, r3, r4⟩ := q5 a ha (by omega)
    refine ⟨b, o, r1, r2, r3, fun i u hi => r4 i u ?_⟩
    rw [e] at hi
    have : (rawCs rs us).flatten = ((rawCs rs us).take j).flatten ++ ((rawCs rs us).drop j).flatten := by rw [← List.flatten_append, List.take_append_drop]
    rw [this, List.getElem?_append_left (List.getElem?_eq_some_iff.1 hi).1]; exact hi
  · have hij : i < j := by have := (List.getElem?_eq_some_iff.1 hi).1; simp at this; omega
    rw [List.getElem?_take_of_lt hij] at hi
    have := h3 i u hi
    rwa [List.getD_eq_getElem?_getD, List.getElem?_take_of_lt hij, ← List.getD_eq_getElem?_getD]
/-- A cut with no lower bound runs, whatever the elements' size. -/
theorem cut_take2 {P : Program} (t e : TypeId) (kh : IntKind) {z : Value} {size b : Nat} (ht : P.underlying t = some (.slice e)) (hinfo : (P.info? e).map (fun i => (i.zero, i.size, i.bytes)) = some (some z, size, b)) (A : Option Addr) (n c m : Nat) (h2 : m ≤ n) (hc : n ≤ c) (hA : A = none → c = 0) :
    ∀ W : World, (Instr.slice t (.slice A n c) none (some (.int kh (m : Int))) none).run P W = .ok (.slice A m c) W := by
  obtain ⟨i, hi, hz0, hz1, hz2⟩ := info_parts hinfo
  intro W
  have hel : P.elem t = e := by simp [Program.elem, ht]
  have hu : P.underlying t = some (.slice (P.elem t)) := by rw [hel]; exact ht
  rw [run_slice_h W t A n c hu kh (m : Int) (by omega) (by omega), hel]
  simp [sizeOf, typeInfo, hi, hz1, sliced, Result.andThen]
  intro _
  cases A <;> simp [Addr.add]
theorem Reads.bytes22 {H : Type} {enc : TypeId × Value → H} {W : World} {u : Value} (h : Reads enc Try.prog W 22 [u]) : ∃ l : List Int, Bs W (fun _ => False) u l ∧ l.length ≤ 140737488351232 := by
  obtain ⟨u', es, hu, hl2, hr2, hb2, he2⟩ := h.slice Try.underlying22 (sz := 1) (B := 1) (by kernel_rfl) (by decide) (by kernel_rfl)
  obtain rfl : u' = u := by injection hu with h _; exact h.symm
  obtain ⟨l, hes⟩ := exists_map (fun x => [Value.int .u8 x]) es (fun c hc => by
    obtain ⟨a, ha, hw⟩ := (he2 c hc).int Try.underlying5
    exact ⟨a, ha⟩)
  subst hes
  have hwf : ∀ x ∈ l, (Lit.int .u8 x).wf = true := by
    intro x hx
    obtain ⟨a, ha, hw⟩ := (he2 [.int .u8 x] (List.mem_map.2 ⟨x, hx, rfl⟩)).int Try.underlying5
    cases ha
    exact hw
  have e1 : (l.map fun x => [Value.int .u8 x]).flatten = nums .u8 l := by
    clear hr2 hb2 he2 hwf hl2
    induction l with
    | nil => rfl
    | cons x l ih => simp [nums] at ih ⊢; exact ih
  rw [e1, List.length_map] at hr2
  rw [List.length_map] at hb2
  exact ⟨l, bs_of_row hr2 hwf, by omega⟩
theorem open_T72 {H : Type} {enc : TypeId × Value → H} {W : World} {v : Value} (h : Reads enc Try.prog W 72 [v]) : ∃ rs : List (Int × List Int), RawsB W (fun _ => False) v rs ∧ ∀ r ∈ rs, (0 ≤ r.1 ∧ r.1 < 256) ∧ r.2.length ≤ 140737488351232 := by
  obtain ⟨v', els, hv, hl, hr, -, he⟩ := h.slice Try.underlying72 (sz := 2) (B := 32) (by kernel_rfl) (by decide) (by kernel_rfl)
  obtain rfl : v' = v := by injection hv with h _; exact h.symm
  have h5 : Try.prog.cellsOf 5 = 1 := by kernel_rfl
  have h22 : Try.prog.cellsOf 22 = 1 := by kernel_rfl
  have hone : ∀ c ∈ els, ∃ (r : Int × List Int) (u : Value), c = [.int .u8 r.1, u] ∧ Bs W (fun _ => False) u r.2 ∧ (0 ≤ r.1 ∧ r.1 < 256) ∧ r.2.length ≤ 140737488351232 := by
    intro c hc
    obtain ⟨hcl, hf⟩ := (he c hc).field Try.underlying82
    have hl2 := hl c hc
    obtain ⟨a, ha, hw⟩ := (hf 0 _ rfl).int Try.underlying5
    have hb := hf 1 _ rfl
    match c, hl2 with
    | [x, y], _ =>
      simp [h5] at ha
      simp [h22] at hb
      obtain ⟨l, q1, q2⟩ := Reads.bytes22 hb
      have := bounds_u8 hw
      exact ⟨(a, l), y, by simp [ha], q1, by simp only; omega, q2⟩
  have hall : ∃ (rs : List (Int × List Int)) (us : List Value), us.length = rs.length ∧ rs.length = els.length ∧ rawCs rs us = els ∧ (∀ r ∈ rs, (0 ≤ r.1 ∧ r.1 < 256) ∧ r.2.length ≤ 140737488351232) ∧ ∀ j u, us[j]? = some u → Bs W (fun _ => False) u (rs.getD j (0, [])).2 := by
    clear hr hl he hv h
    induction els with
    | nil => exact ⟨[], [], rfl, rfl, rfl, (fun m h => by cases h), fun j u h => by simp at h⟩
    | cons c els ih =>
      obtain ⟨r, u, rfl, q1, q2, q3⟩ := hone c (by simp)
      obtain ⟨rs, us, e1, e2, e3, e4, e5⟩ := ih (fun c hc => hone c (by simp [hc]))
      refine ⟨r :: rs, u :: us, by simp [e1], by simp [e2], by simp [rawCs] at e3 ⊢; exact e3, ?_, ?_⟩
      · intro x hx
        rcases List.mem_cons.1 hx with rfl | hx
        · exact ⟨q2, q3⟩
        · exact e4 x hx
      · intro j u' hj
        cases j with
        | zero => simp at hj; subst hj; exact q1
        | succ j => simp at hj; simpa using e5 j u' (by simpa using hj)
  obtain ⟨rs, us, e1, e2, e3, e4, e5⟩ := hall
  exact ⟨rs, ⟨us, e1, by rw [e2, e3]; exact hr, e5⟩, e4⟩
theorem RawsB.nilcap {w : World} {S : Nat → Prop} {A : Option Addr} {n c : Nat} {rs : List (Int × List Int)} (h : RawsB w S (.slice A n c) rs) : n = rs.length ∧ n ≤ c ∧ (A = none → c = 0) := by
  obtain ⟨us, h1, ⟨hl, A', c', hv, q1, q2, q3, q5⟩, h3⟩ := h
  injection hv with e1 e2 e3
  subst e1 e2 e3
  exact ⟨rfl, q1, q3⟩
theorem tot_le (rs : List (Int × List Int)) : tot rs = sumL rs + 2 * rs.length := by
  unfold tot sumL
  induction rs with
  | nil => rfl
  | cons r rs ih => simp only [List.map_cons, List.sum_cons, List.length_cons]; omega
theorem opn_pkt2 {l : List Int} (h : l.length ≤ 65535) : opn (pkt l).1 = (l, [], 0) := by
  have e : (pkt l).1 = 42 :: 2 :: ((l.length : Int) / 256 % 256) :: ((l.length : Int) % 256) :: l := by
    unfold pkt
    rw [if_neg (by omega)]
    simp [putL]
  rw [e]
  simp only [opn]
  have hn : (l.length : Int) / 256 % 256 * 256 + (l.length : Int) % 256 = l.length := by omega
  rw [hn, if_neg (by simp), if_neg (by simp), if_neg (by simp)]
  simp
end Go.Proofs.Ytgfhhnmhpncnlaa
