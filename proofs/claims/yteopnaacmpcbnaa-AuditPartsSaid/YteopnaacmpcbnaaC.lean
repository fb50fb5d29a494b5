/-
  Chain and Loop, the program's and the document's: their walks. Condition: the list that came in is read; it is not very long.
-/
import Derived.Test.YteopnaacmpcbnaaP
namespace Go.Proofs.Yteopnaacmpcbnaa
open Go.RowKit
set_option linter.unusedVariables false
set_option linter.unusedSimpArgs false

/-- What a chain's call comes to. -/
def ChainQ (w : World) (nx : List Int) (f : Int) (e : Ending) (w' : World) : Prop := ∃ l b v', e = .returned (.tuple #[v', .bool b]) ∧ ChainR nx f l b ∧ Oi w' v' l ∧ Lo w.heap.size v' ∧ Below w.heap.size w w'
set_option maxRecDepth 100000 in
set_option maxHeartbeats 3200000 in
theorem Chain_any {w : World} {v : Value} {nx : List Int} (h : Ri w (fun b => w.heap.size ≤ b) v nx) (f : Int) (hl : nx.length ≤ 1000000) :
    Calls Try.prog 10 #[.int .i64 f, v] w (ChainQ w nx f) := by
  obtain ⟨A, c, rfl, hc1, hc2⟩ := h.head
  replace h := Lib.hid h
  go_enter Try.func10, Try.ntmps10
  go_wp2
  go_loopw [0, 4] (fun x u wr => ∃ (l : List Int) (g : Int), x = .int .i64 g ∧ Hid (Path nx f l g ∧ l.Nodup) ∧ Oi wr u l ∧ Lo w.heap.size u ∧ Below w.heap.size w wr) (fun x u wr => nx.length - vlen u)
  case atStart => exact ⟨[], f, rfl, Lib.hid ⟨rfl, List.nodup_nil⟩, own_nil _ _ _, Lo.nil _, Below.refl _ _⟩
  case round =>
    obtain ⟨l, g, rfl, hp, ho, lo, bel⟩ := hrel
    have hlen : l.length ≤ nx.length := nodup_len _ _ hp.out.2 hp.out.1.inr
    obtain ⟨A1, c1, rfl, hd1, hd2⟩ := own_slice ho
    by_cases hr : 0 ≤ g ∧ g < nx.length
    · obtain ⟨j, rfl⟩ : ∃ j : Nat, g = j := ⟨g.toNat, by omega⟩
      have hlt : j < nx.length := by omega
      obtain ⟨b, o, rfl, -, -, -⟩ := h.out.at_ (by omega)
      obtain ⟨y, hy⟩ := get_some hlt
      replace hy := Lib.hid hy
      clear hr
      have HC := Contains_any (own_old ho) j
      by_cases hm : (j : Int) ∈ l
      · rw [decide_eq_true hm] at HC
        replace hm := Lib.hid hm
        go_wp2_with fail
        refine HC.mono ?_
        rintro e w1 ⟨rfl, rfl⟩
        clear HC
        go_wp2_with fail
        go_ret2
        exact ⟨l, false, _, rfl, ⟨j, hp.out.1, hp.out.2, .inl ⟨hm.out, rfl⟩⟩, ho, lo, bel⟩
      · rw [decide_eq_false hm] at HC
        replace hm := Lib.hid hm
        go_wp2_with fail
        refine HC.mono ?_
        rintro e w1 ⟨rfl, rfl⟩
        clear HC
        go_wp2_with (at_builtin; refine wpList_app1 rfl (.tmp 18) (.tmp 20) 22 rfl Try.underlying22 Try.info3 rfl (by decide) (by decide) [.int .i64 j] rfl (nums_one .i64 [(j : Int)]) rfl ho rfl (by omega) ?_; intro v' w2 ho2 hn2 hf2; have bel2 := bel.trans (hf2.belowB lo bel.size); have hc := (h.out.later bel2).cells (nums_get hy.out))
        have hex : Hid (Path nx f (l ++ [(j : Int)]) y ∧ (l ++ [(j : Int)]).Nodup) := Lib.hid (by
          refine ⟨?_, ?_⟩
          · have := hp.out.1.snoc (g := j) (by omega) (by omega)
            rwa [Int.toNat_natCast, List.getD_eq_getElem?_getD, hy.out] at this
          · rw [List.nodup_append]
            exact ⟨hp.out.2, by simp, fun a ha b hb => by simp at hb; subst hb; intro e; subst e; exact hm.out ha⟩)
        have hlen2 : l.length + 1 ≤ nx.length := by
          have := nodup_len nx.length _ hex.out.2 hex.out.1.inr
          simpa using this
        have ho3 : Oi w2 v' (l ++ [(j : Int)]) := by
          have := ho2
          rw [show nums .i64 l ++ [Value.int .i64 j] = nums .i64 (l ++ [(j : Int)]) from nums_append .i64 l [(j : Int)]] at this
          show w2.ownsRow 0 3 1 v' (l ++ [(j : Int)]).length _
          rw [List.length_append]; exact this
        obtain ⟨A2, c2, hv2, -, -⟩ := own_slice ho3
        have lo2 := lo.next hn2 bel.size
        clear ho2 ho hp hm hn2 hf2
        go_roundw
        case rel => exact ⟨l ++ [(j : Int)], y, rfl, hex, ho3, lo2, bel2⟩
        case measure => rw [hv2]; simp [vlen]; omega
    · replace hr := Lib.hid hr
      have hfl : Hid (ChainR nx f l (decide (0 < l.length))) := Lib.hid ⟨g, hp.out.1, hp.out.2, .inr ⟨hr.out, rfl⟩⟩
      obtain ⟨q, hq⟩ : ∃ q, decide (0 < l.length) = q := ⟨_, rfl⟩
      rw [hq] at hfl
      replace hq := Lib.hid hq
      by_cases h0 : 0 ≤ g
      · have e1 : decide (g < (nx.length : Int)) = false := decide_eq_false (fun h => hr.out ⟨h0, h⟩)
        go_wp2_with fail
        go_ret2
        refine ⟨l, q, _, ?_, hfl.out, ho, lo, bel⟩
        rw [← hq.out]; simp
      · have e1 : decide (0 ≤ g) = false := decide_eq_false h0
        go_wp2_with fail
        go_ret2
        refine ⟨l, q, _, ?_, hfl.out, ho, lo, bel⟩
        rw [← hq.out]; simp
set_option maxRecDepth 100000 in
set_option maxHeartbeats 3200000 in
theorem RChain_any {w : World} {v : Value} {nx : List Int} (h : Ri w (fun b => w.heap.size ≤ b) v nx) (f : Int) (hl : nx.length ≤ 1000000) :
    Calls Try.prog 11 #[.int .i64 f, v] w (ChainQ w nx f) := by
  obtain ⟨A, c, rfl, hc1, hc2⟩ := h.head
  replace h := Lib.hid h
  go_enter Try.func11, Try.ntmps11
  go_wp2
  go_loopw [0, 6] (fun x u wr => ∃ (l : List Int) (g : Int), x = .int .i64 g ∧ Hid (Path nx f l g ∧ l.Nodup) ∧ Oi wr u l ∧ Lo w.heap.size u ∧ Below w.heap.size w wr) (fun x u wr => nx.length - vlen u)
  case atStart => exact ⟨[], f, rfl, Lib.hid ⟨rfl, List.nodup_nil⟩, own_nil _ _ _, Lo.nil _, Below.refl _ _⟩
  case round =>
    obtain ⟨l, g, rfl, hp, ho, lo, bel⟩ := hrel
    have hlen : l.length ≤ nx.length := nodup_len _ _ hp.out.2 hp.out.1.inr
    obtain ⟨A1, c1, rfl, hd1, hd2⟩ := own_slice ho
    by_cases hr : 0 ≤ g ∧ g < nx.length
    · obtain ⟨j, rfl⟩ : ∃ j : Nat, g = j := ⟨g.toNat, by omega⟩
      have hlt : j < nx.length := by omega
      obtain ⟨b, o, rfl, -, -, -⟩ := h.out.at_ (by omega)
      obtain ⟨y, hy⟩ := get_some hlt
      replace hy := Lib.hid hy
      clear hr
      have HC := in_any (own_old ho) j
      by_cases hm : (j : Int) ∈ l
      · rw [decide_eq_true hm] at HC
        replace hm := Lib.hid hm
        go_wp2_with fail
        refine HC.mono ?_
        rintro e w1 ⟨rfl, rfl⟩
        clear HC
        go_wp2_with fail
        go_ret2
        exact ⟨l, false, _, rfl, ⟨j, hp.out.1, hp.out.2, .inl ⟨hm.out, rfl⟩⟩, ho, lo, bel⟩
      · rw [decide_eq_false hm] at HC
        replace hm := Lib.hid hm
        go_wp2_with fail
        refine HC.mono ?_
        rintro e w1 ⟨rfl, rfl⟩
        clear HC
        go_wp2_with (at_builtin; refine wpList_app1 rfl (.tmp 19) (.tmp 21) 22 rfl Try.underlying22 Try.info3 rfl (by decide) (by decide) [.int .i64 j] rfl (nums_one .i64 [(j : Int)]) rfl ho rfl (by omega) ?_; intro v' w2 ho2 hn2 hf2; have bel2 := bel.trans (hf2.belowB lo bel.size); have hc := (h.out.later bel2).cells (nums_get hy.out))
        have hex : Hid (Path nx f (l ++ [(j : Int)]) y ∧ (l ++ [(j : Int)]).Nodup) := Lib.hid (by
          refine ⟨?_, ?_⟩
          · have := hp.out.1.snoc (g := j) (by omega) (by omega)
            rwa [Int.toNat_natCast, List.getD_eq_getElem?_getD, hy.out] at this
          · rw [List.nodup_append]
            exact ⟨hp.out.2, by simp, fun a ha b hb => by simp at hb; subst hb; intro e; subst e; exact hm.out ha⟩)
        have hlen2 : l.length + 1 ≤ nx.length := by
          have := nodup_len nx.length _ hex.out.2 hex.out.1.inr
          simpa using this
        have ho3 : Oi w2 v' (l ++ [(j : Int)]) := by
          have := ho2
          rw [show nums .i64 l ++ [Value.int .i64 j] = nums .i64 (l ++ [(j : Int)]) from nums_append .i64 l [(j : Int)]] at this
          show w2.ownsRow 0 3 1 v' (l ++ [(j : Int)]).length _
          rw [List.length_append]; exact this
        obtain ⟨A2, c2, hv2, -, -⟩ := own_slice ho3
        have lo2 := lo.next hn2 bel.size
        clear ho2 ho hp hm hn2 hf2
        go_roundw
        case rel => exact ⟨l ++ [(j : Int)], y, rfl, hex, ho3, lo2, bel2⟩
        case measure => rw [hv2]; simp [vlen]; omega
    · replace hr := Lib.hid hr
      have hfl : Hid (ChainR nx f l (decide (0 < l.length))) := Lib.hid ⟨g, hp.out.1, hp.out.2, .inr ⟨hr.out, rfl⟩⟩
      obtain ⟨q, hq⟩ : ∃ q, decide (0 < l.length) = q := ⟨_, rfl⟩
      rw [hq] at hfl
      replace hq := Lib.hid hq
      by_cases h0 : 0 ≤ g
      · have e1 : decide (g < (nx.length : Int)) = false := decide_eq_false (fun h => hr.out ⟨h0, h⟩)
        go_wp2_with fail
        go_ret2
        refine ⟨l, q, _, ?_, hfl.out, ho, lo, bel⟩
        rw [← hq.out]; simp
      · have e1 : decide (0 ≤ g) = false := decide_eq_false h0
        go_wp2_with fail
        go_ret2
        refine ⟨l, q, _, ?_, hfl.out, ho, lo, bel⟩
        rw [← hq.out]; simp
end Go.Proofs.Yteopnaacmpcbnaa
