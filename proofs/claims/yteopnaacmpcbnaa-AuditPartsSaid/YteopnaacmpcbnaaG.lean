/-
  Parts' walk. Condition: the wires that came in are read; they are not very many.
-/
import Derived.Test.YteopnaacmpcbnaaF
namespace Go.Proofs.Yteopnaacmpcbnaa
open Go.RowKit Go.Maps
set_option linter.unusedVariables false
set_option linter.unusedSimpArgs false

/-- A row of m whole numbers of the call's own. -/
abbrev Op (m : Nat) (w : World) (v : Value) (l : List Int) : Prop := w.ownsRow 0 3 1 v m (nums .i64 l)
theorem Op.len {m : Nat} {w : World} {v : Value} {l : List Int} (h : Op m w v l) : l.length = m := by have := h.1; rw [nums_length] at this; omega
theorem Op.oi {m : Nat} {w : World} {v : Value} {l : List Int} (h : Op m w v l) : Oi w v l := by have e := Op.len h; subst e; exact h
theorem map_fr {w w' : World} {b n : Nat} {D : DataW Unit} (h : w.ownsMap Try.prog 3 (plainElem Try.prog 3) b n D) {S : Nat → Prop} (hf : Fr S w w') (hS : ¬ S b) : w'.ownsMap Try.prog 3 (plainElem Try.prog 3) b n D := by
  obtain ⟨es, clock, hb, r⟩ := h
  exact ⟨es, clock, hf.obj hb hS, r⟩
theorem nums_set (k : IntKind) (l : List Int) (i : Nat) (y : Int) : (nums k l).set i (.int k y) = nums k (l.set i y) := by simp [nums, List.map_set]
theorem set_same {α : Type} {l : List α} {i : Nat} {y : α} (h : l[i]? = some y) : l.set i y = l := by
  obtain ⟨hi, rfl⟩ := List.getElem?_eq_some_iff.1 h
  exact List.set_getElem_self hi
theorem ids_succ (j : Nat) : ids (j + 1) = ids j ++ [(j : Int)] := by simp [ids, List.range_succ]
theorem ids_fill {j m : Nat} (h : j < m) : (ids j ++ List.replicate (m - j) (0 : Int)).set j j = ids (j + 1) ++ List.replicate (m - (j + 1)) 0 := by
  rw [List.set_append_right _ _ (by rw [ids_len]; exact Nat.le_refl _), ids_len, Nat.sub_self, show m - j = (m - (j + 1)) + 1 by omega, List.replicate_succ, List.set_cons_zero, ids_succ]
  simp
theorem mrg_step {p : List Int} {a b : Int} {i : Nat} {y : Int} (hy : p[i]? = some y) : ((mrg p a b).take i ++ p.drop i)[i]? = some y ∧ ((mrg p a b).take i ++ p.drop i).set i (mkm a b y) = (mrg p a b).take (i + 1) ++ p.drop (i + 1) := by
  obtain ⟨hi, rfl⟩ := List.getElem?_eq_some_iff.1 hy
  have hl : ((mrg p a b).take i).length = i := by simp [mrg]; omega
  have hm : (mrg p a b)[i]? = some (mkm a b p[i]) := by simp [mrg, List.getElem?_eq_getElem hi]
  refine ⟨?_, ?_⟩
  · rw [List.getElem?_append_right (by omega), hl, Nat.sub_self, List.getElem?_drop]; simp
  · rw [List.set_append_right _ _ (by omega), hl, Nat.sub_self, List.drop_eq_getElem_cons hi, List.set_cons_zero, take_snoc hm, List.append_assoc]; rfl
set_option maxRecDepth 100000 in
set_option maxHeartbeats 3200000 in
theorem Parts_bad {w : World} {v : Value} {ws : List Wire} (h : Rw w (fun b => w.heap.size ≤ b) v ws) (n : Int) (hn : ¬ (1 ≤ n ∧ n ≤ 8)) :
    Calls Try.prog 13 #[.int .i64 n, v] w fun e w' => e = .returned (.slice none 0 0) ∧ w' = w := by
  obtain ⟨A, c, rfl, hc1, hc2⟩ := h.head
  clear h
  by_cases h1 : n < 1
  · have e1 : decide (n < 1) = true := decide_eq_true h1
    go_enter Try.func13, Try.ntmps13
    go_wp2
    go_ret
    exact ⟨rfl, rfl⟩
  · have e1 : decide (n < 1) = false := decide_eq_false h1
    have e2 : decide (8 < n) = true := decide_eq_true (by omega)
    replace hn := Lib.hid hn
    go_enter Try.func13, Try.ntmps13
    go_wp2
    go_ret
    exact ⟨rfl, rfl⟩
set_option maxRecDepth 100000 in
set_option maxHeartbeats 6400000 in
theorem Parts_ok {w : World} {v : Value} {ws : List Wire} (h : Rw w (fun b => w.heap.size ≤ b) v ws) (hw : ∀ x ∈ ws, wfW x) (hl : ws.length ≤ 1000000) (m : Nat) (hm1 : 1 ≤ m) (hm8 : m ≤ 8) :
    Calls Try.prog 13 #[.int .i64 m, v] w fun e w' => ∃ v', e = .returned v' ∧ Op m w' v' (prs m ws).1 ∧ Lo w.heap.size v' ∧ Below w.heap.size w w' := by
  obtain ⟨A, c, rfl, hc1, hc2⟩ := h.head
  replace h := Lib.hid h
  replace hw := Lib.hid hw
  have hmm := @run_makeMap Try.prog
  have hmk := run_make_row' (P := Try.prog) 22 3 (.int .i64 0) 8 Try.underlying22 Try.info3 rfl .i64 .i64 m (by omega) (by omega)
  have em1 : decide ((m : Int) < 1) = false := decide_eq_false (by omega)
  have em8 : decide (8 < (m : Int)) = false := decide_eq_false (by omega)
  have ho0 : Op m (w.alloc (.cells (madeCells #[.int .i64 0] m) 3)) (.slice (some ⟨w.heap.size, 0, none⟩) m m) (ids 0 ++ List.replicate (m - 0) 0) :=
    ⟨by simp [nums, ids], .inr ⟨w.heap.size, m, _, rfl, Nat.zero_le _, heap_alloc_new w _, Nat.le_refl _, by unfold maxLen; omega, by rw [size_madeCells]; omega, by rw [toList_madeCells_one]; simp [nums, ids]⟩⟩
  have lo0 : Lo w.heap.size (.slice (some ⟨w.heap.size, 0, none⟩) m m) := fun b hb => Nat.le_of_eq (Option.some.inj hb)
  have bel0 : Below w.heap.size w (w.alloc (.cells (madeCells #[.int .i64 0] m) 3)) := (Below.refl _ _).alloc (Nat.le_refl _) _
  go_enter Try.func13, Try.ntmps13
  go_wp2
  go_loopw [26] (fun x wr => ∃ j : Nat, x = .int .i64 j ∧ j ≤ m ∧ Op m wr (.slice (some ⟨w.heap.size, 0, none⟩) m m) (ids j ++ List.replicate (m - j) 0) ∧ Below w.heap.size w wr ∧ w.heap.size < wr.heap.size) (fun x wr => m - (intOf x).toNat)
  case atStart => exact ⟨0, rfl, Nat.zero_le _, ho0, bel0, by simp⟩
  case round =>
    obtain ⟨j, rfl, hj, ho, bel, hsz⟩ := hrel
    by_cases hlt : j < m
    · obtain ⟨k, hk, -, -, hcell, hfz, hset⟩ := own_at ho (by omega)
      obtain rfl : w.heap.size = k := by injection hk with hk; injection hk
      obtain ⟨y, hy⟩ := get_some (l := ids j ++ List.replicate (m - j) (0 : Int)) (j := j) (by rw [Op.len ho]; exact hlt)
      have hc := hcell j _ (nums_get hy)
      have hf := hfz j
      have hs := hset j (.int .i64 j) (by omega)
      rw [nums_set, ids_fill hlt] at hs
      have hfr : Fr (fun b => b = w.heap.size) wr (wr.setCell ⟨w.heap.size, j, none⟩ (.int .i64 j)) := Fr.setCell (S := fun b => b = w.heap.size) (Fr.refl _ wr) (p := ⟨w.heap.size, j, none⟩) (.inl rfl) _
      have bel2 := bel.trans (hfr.belowS (fun b hb => Nat.le_of_eq hb.symm) bel.size)
      clear hcell hfz hset hy
      go_wp2
      go_roundw
      case rel => exact ⟨j + 1, by go_num, by omega, hs, bel2, by simp [World.setCell]; exact hsz⟩
      case measure => simp [intOf]; omega
    · obtain rfl : j = m := by omega
      have ho : Op j wr (.slice (some ⟨w.heap.size, 0, none⟩) j j) (ids j) := by simpa using ho
      have hown0 := World.ownsMap_made wr Try.prog 3 (plainElem (H := Unit) Try.prog 3)
      have hfm : Fr (fun _ => False) wr (wr.alloc (.map #[] 0)) := (Fr.refl _ wr).alloc _
      have hom := own_fr ho hfm (fun _ _ h => h)
      have belm := bel.alloc bel.size (.map #[] 0)
      have hszm : wr.heap.size < (wr.alloc (.map #[] 0)).heap.size := by simp
      generalize hB : wr.heap.size = B at hown0 hsz hszm
      go_wp2_with fail
      try rw [hB]
      generalize wr.alloc (.map #[] 0) = wm at hown0 hom belm hszm ⊢
      clear ho bel hB hmk hmm em1 em8
      go_loopw [37] (fun x wl => ∃ (i : Nat) (D : DataW Unit) (p : List Int) (f : Int → Option Int), x = .int .i64 i ∧ i ≤ ws.length ∧ Hid ((ws.take i).foldl (pstep j) (ids j, fun _ => none) = (p, f)) ∧ Op j wl (.slice (some ⟨w.heap.size, 0, none⟩) j j) p ∧ wl.ownsMap Try.prog 3 (plainElem Try.prog 3) B i D ∧ Hid (MapR D f) ∧ Below w.heap.size w wl) (fun x wl => ws.length - (intOf x).toNat)
      case atStart => exact ⟨0, _, _, _, rfl, Nat.zero_le _, Lib.hid rfl, hom, hown0, Lib.hid MapR.start, belm⟩
      case round =>
        clear hom hown0 belm hszm
        obtain ⟨i, D, p, f, rfl, hi, hst, hp, hown, hD, bel⟩ := hrel
        have hinv := PInv.fold (ws.take i) [] _ (PInv.start j)
        rw [hst.out, List.nil_append] at hinv
        replace hinv := Lib.hid hinv
        by_cases hlt : i < ws.length
        · obtain ⟨⟨nd, iff, sg⟩, hx⟩ := get_some hlt
          obtain ⟨wf1, wf2, wf3⟩ := hw.out _ (List.mem_of_getElem? hx)
          obtain ⟨b, o, rfl, -, -, -⟩ := h.out.at_ (by omega)
          have hr := h.out.later bel
          have c0 := hr.cells (wcs_get hx).1
          have c1 := hr.cells (wcs_get hx).2.1
          have c2 := hr.cells (wcs_get hx).2.2
          simp only at c0 c1 c2
          rw [← Nat.add_assoc] at c1 c2
          have hstep : Hid ((ws.take (i + 1)).foldl (pstep j) (ids j, fun _ => none) = pstep j (p, f) (nd, iff, sg)) := Lib.hid (by rw [take_snoc hx, List.foldl_append, hst.out]; rfl)
          replace wf1 := Lib.hid wf1
          replace wf3 := Lib.hid wf3
          replace hx := Lib.hid hx
          clear hr hst wf2
          have hfa : Fr (fun _ => False) wr (wr.alloc (.cells #[.int .i64 nd, .int .i64 iff, .int .i64 sg] 36)) := (Fr.refl _ wr).alloc _
          have hp1 := own_fr hp hfa (fun _ _ h => h)
          have hown1 := hown.alloc (.cells #[.int .i64 nd, .int .i64 iff, .int .i64 sg] 36)
          have bel1 := bel.alloc bel.size (.cells #[.int .i64 nd, .int .i64 iff, .int .i64 sg] 36)
          by_cases hok : okW j (nd, iff, sg)
          · obtain ⟨ok1, ok2⟩ := id hok
            simp only at ok1 ok2
            obtain ⟨n1, rfl⟩ : ∃ n1 : Nat, nd = n1 := ⟨nd.toNat, by omega⟩
            replace hok := Lib.hid hok
            have hn1 : n1 < j := by omega
            clear ok1 ok2
            have hkey : keyOf Try.prog 3 (.int .i64 sg) = some (.int .i64 sg) := keyOf_int_mk Try.underlying3 wf3.out
            have hDs := hD.out.2 sg wf3.out
            cases hf : f sg with
            | none =>
              have hh : Maps.has D (.int .i64 sg) = false := by rw [hDs.1, hf]; rfl
              clear hDs
              have hst2 : Hid ((ws.take (i + 1)).foldl (pstep j) (ids j, fun _ => none) = (p, fun s => if s = sg then some (n1 : Int) else f s)) := Lib.hid (by
                rw [hstep.out]; unfold pstep; rw [if_pos hok.out]; simp only [hf])
              replace hh := Lib.hid hh
              replace hf := Lib.hid hf
              go_wp2_with (first
                | (at_lookup; refine wpList_lookup_own_ok_int _ rfl _ _ 40 rfl 3 3 .i64 law3 Try.underlying40 Try.underlying3 (zero3 _) B i D rfl hown1 _ _ rfl hkey ?_; intro c hat hwc; rw [hh.out]; clear hat hwc)
                | (at_mapUpdate; refine wpList_mapUpdate_own _ rfl _ _ _ 40 rfl 3 3 law3 Try.underlying40 _ B i D rfl hown1 (by unfold maxLen; omega) _ _ _ rfl rfl hkey _ [] (plainElem_int Try.underlying3 wf1.out) ?_; intro w2 hown2 hgrow2))
              have f2 : Fr (fun b => b = B) _ w2 := (Fr.refl _ _).grown hgrow2 (fun b hb => .inl (by injection hb with h; exact h.symm))
              have hp2 := own_fr hp1 f2 (fun b hb => by have := Option.some.inj hb; simp only at this; omega)
              have bel2 := bel1.trans (f2.belowS (fun b hb => by omega) bel1.size)
              have hD2 := hD.out.put wf3.out (n1 : Int)
              replace hD2 := Lib.hid hD2
              clear hown1 hp1 bel1 hgrow2 f2 hown hp bel
              go_roundw
              case rel => exact ⟨i + 1, _, p, _, by go_num, by omega, hst2, hp2, hown2, hD2, bel2⟩
              case measure => simp [intOf]; omega
            | some o' =>
              have hh : Maps.has D (.int .i64 sg) = true := by rw [hDs.1, hf]; rfl
              obtain ⟨z, hz, hzo, hzn, hzs⟩ := hinv.out.mem sg o' hf
              have hz1 := hzo.1
              have hz2 := hzo.2
              rw [hzn] at hz1 hz2
              obtain ⟨n2, rfl⟩ : ∃ n2 : Nat, o' = n2 := ⟨o'.toNat, by omega⟩
              have hn2 : n2 < j := by omega
              have hat0 := hDs.2 n2 hf (.lit (.int .i64 0))
              have hpl : p.length = j := Op.len hp
              obtain ⟨a, ha⟩ := get_some (l := p) (j := n2) (by omega)
              obtain ⟨b', hb'⟩ := get_some (l := p) (j := n1) (by omega)
              obtain ⟨mn, hmn⟩ : ∃ mn, (if b' < a then b' else a) = mn := ⟨_, rfl⟩
              have hmin : min a b' = mn := by rw [← hmn]; omega
              have hst2 : Hid ((ws.take (i + 1)).foldl (pstep j) (ids j, fun _ => none) = (mrg p a b', f)) := Lib.hid (by
                rw [hstep.out]; unfold pstep; rw [if_pos hok.out]; simp only [hf, pf_get ha, pf_get hb'])
              obtain ⟨k, hk, -, -, hcell, hfz, -⟩ := own_at hp1 (by omega)
              obtain rfl : w.heap.size = k := by injection hk with hk; injection hk
              have q1 := hcell _ _ (nums_get ha)
              have q2 := hcell _ _ (nums_get hb')
              replace hh := Lib.hid hh
              replace hf := Lib.hid hf
              replace hat0 := Lib.hid hat0
              replace hmin := Lib.hid hmin
              replace hpl := Lib.hid hpl
              clear hDs hz hzo hzn hzs hz1 hz2 hcell hfz hk ha hb'
              go_wp2_with (at_lookup; refine wpList_lookup_own_ok_int _ rfl _ _ 40 rfl 3 3 .i64 law3 Try.underlying40 Try.underlying3 (zero3 _) B i D rfl hown1 _ _ rfl hkey ?_; intro c hat hwc; obtain rfl : (n2 : Int) = c := (by rw [hat0.out] at hat; injection hat with h; injection h); rw [hh.out]; clear hat hwc hat0; have z0 : (wr.alloc (.cells #[.int .i64 n1, .int .i64 iff, .int .i64 sg] 36)).cell? ⟨wr.heap.size, 0, none⟩ = some (.int .i64 n1) := (row_cell (heap_alloc_new wr _)).trans rfl; generalize wr.alloc (.cells #[.int .i64 n1, .int .i64 iff, .int .i64 sg] 36) = w1 at *; generalize wr.heap.size = k9 at *; clear hown hp bel hfa c0 c1 c2)
              go_quiet (fail)
              go_wp2_with fail
              go_loopw [75] (fun y w4 => ∃ i2 : Nat, y = .int .i64 i2 ∧ i2 ≤ j ∧ Op j w4 (.slice (some ⟨w.heap.size, 0, none⟩) j j) ((mrg p a b').take i2 ++ p.drop i2) ∧ Fr (fun b => b = w.heap.size) w1 w4) (fun y w4 => j - (intOf y).toNat)
              case atStart => exact ⟨0, rfl, Nat.zero_le _, by simpa using own_drewN hp1 nq, (Fr.refl _ _).drewN nq⟩
              case round =>
                obtain ⟨i2, rfl, hi2, ho4, f4⟩ := hrel
                by_cases hlt2 : i2 < j
                · obtain ⟨k, hk, -, -, hcell, hfz, hset⟩ := own_at ho4 (by omega)
                  obtain rfl : w.heap.size = k := by injection hk with hk; injection hk
                  obtain ⟨y, hy⟩ := get_some (l := p) (j := i2) (by rw [hpl.out]; exact hlt2)
                  obtain ⟨m1, m2⟩ := mrg_step (a := a) (b := b') hy
                  have hc := hcell _ _ (nums_get m1)
                  have hfy := hfz i2
                  clear hcell hfz hk m1 q1 q2
                  replace hy := Lib.hid hy
                  by_cases hab : y = a ∨ y = b'
                  · have hs := hset i2 (.int .i64 mn) (by omega)
                    rw [nums_set, show mn = mkm a b' y by unfold mkm; rw [if_pos hab, hmin.out], m2] at hs
                    have f5 : Fr (fun b => b = w.heap.size) w1 (wr.setCell ⟨w.heap.size, i2, none⟩ (.int .i64 mn)) := f4.setCell (p := ⟨w.heap.size, i2, none⟩) (.inl rfl) _
                    rw [show mkm a b' y = mn by unfold mkm; rw [if_pos hab, hmin.out]] at hs
                    clear hset m2
                    by_cases hya : y = a
                    · have e1 : (y == a) = true := by simp [hya]
                      replace hya := Lib.hid hya
                      replace hab := Lib.hid hab
                      go_wp2_with fail
                      go_roundw
                      case rel => exact ⟨i2 + 1, by go_num, by omega, hs, f5⟩
                      case measure => simp [intOf]; omega
                    · have e1 : (y == a) = false := by simp [hya]
                      have e2 : (y == b') = true := by simp; exact hab.resolve_left hya
                      replace hya := Lib.hid hya
                      replace hab := Lib.hid hab
                      go_wp2_with fail
                      go_roundw
                      case rel => exact ⟨i2 + 1, by go_num, by omega, hs, f5⟩
                      case measure => simp [intOf]; omega
                  · have e1 : (y == a) = false := by simp; exact fun h => hab (.inl h)
                    have e2 : (y == b') = false := by simp; exact fun h => hab (.inr h)
                    have hl2 : (mrg p a b').take i2 ++ p.drop i2 = (mrg p a b').take (i2 + 1) ++ p.drop (i2 + 1) := by
                      rw [← m2, show mkm a b' y = y by unfold mkm; rw [if_neg hab]]
                      have m1 := (mrg_step (a := a) (b := b') hy.out).1
                      exact (set_same m1).symm
                    rw [hl2] at ho4
                    replace hab := Lib.hid hab
                    clear hl2 m2 hset
                    go_wp2_with fail
                    go_roundw
                    case rel => exact ⟨i2 + 1, by go_num, by omega, ho4, f4⟩
                    case measure => simp [intOf]; omega
                · obtain rfl : i2 = j := by omega
                  have ho4 : Op i2 wr (.slice (some ⟨w.heap.size, 0, none⟩) i2 i2) (mrg p a b') := by
                    have e : (mrg p a b').take i2 ++ p.drop i2 = mrg p a b' := by
                      rw [List.take_of_length_le (by simp [mrg, hpl.out]), List.drop_of_length_le (by rw [hpl.out]; exact Nat.le_refl _), List.append_nil]
                    rw [← e]; exact ho4
                  have hown4 := map_fr hown1 f4 (fun h => by omega)
                  have bel4 := bel1.trans (f4.belowS (fun b hb => Nat.le_of_eq hb.symm) bel1.size)
                  clear q1 q2 z0 f4 hown1 hp1 bel1
                  go_wp2_with fail
                  go_roundw
                  case rel => exact ⟨i + 1, D, _, f, by go_num, by omega, hst2, ho4, hown4.mono (Nat.le_succ _), hD, bel4⟩
                  case measure => simp [intOf]; omega
          · have hst2 : Hid ((ws.take (i + 1)).foldl (pstep j) (ids j, fun _ => none) = (p, f)) := Lib.hid (by rw [hstep.out]; exact if_neg hok)
            replace hok := Lib.hid hok
            by_cases k0 : nd < 0
            · have e0 : decide (nd < 0) = true := decide_eq_true k0
              go_wp2_with fail
              go_roundw
              case rel => exact ⟨i + 1, D, p, f, by go_num, by omega, hst2, hp1, hown1.mono (Nat.le_succ _), hD, bel1⟩
              case measure => simp [intOf]; omega
            · have e0 : decide (nd < 0) = false := decide_eq_false k0
              have e1 : decide ((j : Int) ≤ nd) = true := decide_eq_true (by have := hok.out; unfold okW at this; simp only at this; omega)
              go_wp2_with fail
              go_roundw
              case rel => exact ⟨i + 1, D, p, f, by go_num, by omega, hst2, hp1, hown1.mono (Nat.le_succ _), hD, bel1⟩
              case measure => simp [intOf]; omega
        · obtain rfl : i = ws.length := by omega
          have hfin : Hid ((prs j ws).1 = p) := Lib.hid (by unfold prs; have := hst.out; rw [List.take_length] at this; rw [this])
          go_wp2_with fail
          go_ret
          refine ⟨_, rfl, ?_, lo0, bel⟩
          rw [hfin.out]; exact hp
end Go.Proofs.Yteopnaacmpcbnaa
