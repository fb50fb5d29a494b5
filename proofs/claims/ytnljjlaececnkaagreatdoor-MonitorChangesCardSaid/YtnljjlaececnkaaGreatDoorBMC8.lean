/-
  Merged texts (RH, RI, RJ, RK, RL, RM, RN), part 8 of 11. Conditions: each part's own, told at its head.
-/
import Derived.Test.YtnljjlaececnkaaGreatDoorBMC1
import Derived.Test.YtnljjlaececnkaaGreatDoorBMC2
import Derived.Test.YtnljjlaececnkaaGreatDoorBMC3
import Derived.Test.YtnljjlaececnkaaGreatDoorBMC4
import Derived.Test.YtnljjlaececnkaaGreatDoorBMC5
import Derived.Test.YtnljjlaececnkaaGreatDoorBMC6
import Derived.Test.YtnljjlaececnkaaGreatDoorBMC7
import Derived.BigFrame
import Derived.Maps.AppendAt
import Derived.Orders
/-
  A symbolic world: append; one operation. No condition.
-/
namespace Go.Rn
open Go.RowKit Go.MapKept
set_option linter.unusedVariables false
set_option linter.unusedSimpArgs false
variable {P : Program} {G : Nat} {w0 : World} {r : Ren} {h : Tr SObj} {nx : Nat} {w : World}
/-- A slice of the run's own, at its row's head: its block, its length, its elements' cells; a capacity that is known fills the row. -/
noncomputable def rowS (G : Nat) (h : Tr SObj) (e : TypeId) (size : Nat) : Value → Option (Nat × Nat × List Value)
  | .slice (some ⟨b, 0, none⟩) len cap => match h.get b with
    | some (.cells c t opn) => cond (Nat.ble G b && Nat.beq t e && Nat.ble (len * size) c.length && Nat.blt 0 size)
        (cond (Nat.blt cap capB)
          (cond (Nat.beq opn 0 && Nat.beq (cap * size) c.length && Nat.ble len cap && Nat.ble cap 1099511627776) (some (b, len, c.take (len * size))) none)
          (cond (Nat.beq opn size && Nat.beq cap (capB + b * 65536)) (some (b, len, c.take (len * size))) none)) none
    | _ => none
  | _ => none
theorem rowS_sound (D : Den G w0 r h nx w) {e : TypeId} {size : Nat} {v : Value} {b len : Nat} {cs : List Value} (hs : rowS G h e size v = some (b, len, cs)) :
    w.ownsRow w0.heap.size e size (ren r v) len (renL r cs) ∧ (ren r v).ownBlock = some (r.blk b) ∧ G ≤ b ∧ b < nx ∧ LtL nx cs ∧ (∃ c t opn, h.get b = some (.cells c t opn)) ∧ 0 < size := by
  unfold rowS at hs
  split at hs
  case h_2 => cases hs
  rename_i b' len' cap
  split at hs
  case h_2 => cases hs
  rename_i c t opn hb
  cases hc : (Nat.ble G b' && Nat.beq t e && Nat.ble (len' * size) c.length && Nat.blt 0 size) with
  | false => rw [hc] at hs; cases hs
  | true =>
    rw [hc, cond_true] at hs
    simp only [Bool.and_eq_true] at hc
    obtain ⟨⟨⟨c1, c2⟩, c3⟩, c4⟩ := hc
    have c1 := Nat.le_of_ble_eq_true c1
    have c2 : t = e := Nat.eq_of_beq_eq_true c2
    have c3 := Nat.le_of_ble_eq_true c3
    have c4 := blt_lt c4
    subst c2
    have hbn := D.dom b' (by rw [hb]; simp)
    have hlo := D.low b' c1 hbn
    obtain ⟨rest, hh, hr⟩ := D.obj b' _ hb
    have hcl : LtL nx c := D.lt b' _ hb
    have htake : ((renL r c ++ rest).toArray.toList.take (len' * size)) = renL r (c.take (len' * size)) := by
      rw [renL_take]
      show (renL r c ++ rest).take _ = _
      rw [List.take_append_of_le_length (by rw [renL_len]; exact c3)]
    have hlen : (renL r (c.take (len' * size))).length = len' * size := by rw [renL_len, List.length_take]; omega
    cases hcap : Nat.blt cap capB with
    | true =>
      rw [hcap, cond_true] at hs
      cases hd : (Nat.beq opn 0 && Nat.beq (cap * size) c.length && Nat.ble len' cap && Nat.ble cap 1099511627776) with
      | false => rw [hd] at hs; cases hs
      | true =>
        rw [hd, cond_true] at hs
        cases hs
        simp only [Bool.and_eq_true] at hd
        obtain ⟨⟨⟨d1, d2⟩, d3⟩, d4⟩ := hd
        have d1 : opn = 0 := Nat.eq_of_beq_eq_true d1
        have d2 : cap * size = c.length := Nat.eq_of_beq_eq_true d2
        rw [if_pos d1] at hr
        subst hr
        refine ⟨⟨hlen, .inr ⟨r.blk b, cap, _, ?_, hlo.1, hh, Nat.le_of_ble_eq_true d3, Nat.le_trans (Nat.le_of_ble_eq_true d4) (by decide), ?_, htake⟩⟩, by simp [ren, Ren.addr, Value.ownBlock], c1, hbn, hcl.sub fun v hv => List.mem_of_mem_take hv, ⟨_, _, _, hb⟩, c4⟩
        · simp only [ren, Ren.addr, capOf_small r (blt_lt hcap)]
        · simp only [List.size_toArray, List.length_append, renL_len, List.length_nil, Nat.add_zero]; exact d2.symm
    | false =>
      rw [hcap, cond_false] at hs
      cases hd : (Nat.beq opn size && Nat.beq cap (capB + b' * 65536)) with
      | false => rw [hd] at hs; cases hs
      | true =>
        rw [hd, cond_true] at hs
        cases hs
        simp only [Bool.and_eq_true] at hd
        have d1 : opn = size := Nat.eq_of_beq_eq_true hd.1
        have d2 : cap = capB + b * 65536 := Nat.eq_of_beq_eq_true hd.2
        rw [if_neg (by omega)] at hr
        have hcapOf : r.capOf cap = r.cap b := by
          unfold Ren.capOf
          rw [if_neg (by omega), d2, Nat.add_sub_cancel_left, Nat.mul_div_cancel _ (by decide), Nat.mul_mod_left, Nat.sub_zero]
        have hsz : r.cap b * size = c.length + rest.length := by rw [hr.1, d1]
        refine ⟨⟨hlen, .inr ⟨r.blk b, r.cap b, _, ?_, hlo.1, hh, ?_, hr.2, ?_, htake⟩⟩, by simp [ren, Ren.addr, Value.ownBlock], c1, hbn, hcl.sub fun v hv => List.mem_of_mem_take hv, ⟨_, _, _, hb⟩, c4⟩
        · simp only [ren, Ren.addr, hcapOf]
        · exact Nat.le_of_mul_le_mul_right (c := size) (Nat.le_trans (Nat.le_trans c3 (Nat.le_add_right _ rest.length)) (Nat.le_of_eq hsz.symm)) c4
        · simp only [List.size_toArray, List.length_append, renL_len]; exact hsz.symm
/-- The cells of a slice that is read. -/
noncomputable def newsS (h : Tr SObj) (size : Nat) : Value → Option (Nat × List Value)
  | .slice (some ⟨b, o, none⟩) n _ => match h.get b with
    | some (.cells c _ _) => cond (Nat.ble (o + n * size) c.length && c.all (·.oneCell')) (some (n, (c.drop o).take (n * size))) none
    | _ => none
  | _ => none
theorem newsS_sound (D : Den G w0 r h nx w) {size n : Nat} {x : Value} {cs : List Value} (hs : newsS h size x = some (n, cs)) :
    ∃ a c, ren r x = .slice (some a) n c ∧ (renL r cs).length = n * size ∧ (∀ j u, (renL r cs)[j]? = some u → w.cell? (a.add j) = some u) ∧ (∀ u ∈ renL r cs, u.oneCell' = true) ∧ LtL nx cs := by
  unfold newsS at hs
  split at hs
  case h_2 => cases hs
  rename_i b o n' cap
  split at hs
  case h_2 => cases hs
  rename_i c t op hb
  cases hc : (Nat.ble (o + n' * size) c.length && c.all (·.oneCell')) with
  | false => rw [hc] at hs; cases hs
  | true =>
    rw [hc, cond_true] at hs
    cases hs
    simp only [Bool.and_eq_true] at hc
    have c1 := Nat.le_of_ble_eq_true hc.1
    refine ⟨⟨r.blk b, o, none⟩, r.capOf cap, by simp [ren, Ren.addr], by rw [renL_len, List.length_take, List.length_drop]; omega, fun j u hj => ?_, fun u hu => ?_, (D.lt b _ hb : LtL nx c).sub fun v hv => List.mem_of_mem_drop (List.mem_of_mem_take hv)⟩
    · rw [renL_get] at hj
      obtain ⟨x, hx, rfl⟩ := Option.map_eq_some_iff.1 hj
      have hjl := (List.getElem?_eq_some_iff.1 hx).1
      rw [List.length_take] at hjl
      rw [List.getElem?_take, if_pos (by omega), List.getElem?_drop] at hx
      rw [add_none]
      exact cell_at D hb hx
    · rw [renL_map] at hu
      obtain ⟨v, hv, rfl⟩ := List.mem_map.1 hu
      rw [one_ren]
      exact List.all_eq_true.1 hc.2 v (List.mem_of_mem_drop (List.mem_of_mem_take hv))
/-- append of a slice to a slice. -/
noncomputable def appendS (P : Program) (G : Nat) (h : Tr SObj) (nx : Nat) (ats : List TypeId) (s x : Value) : Option (Value × Tr SObj × Nat) :=
  match ats with
  | [t, t'] => cond (Nat.beq t t') (match P.underlying t with
    | some (.slice e) => match P.info? e with
      | some i => match i.zero with
        | some z => cond (Nat.beq z.cells.size i.size && Nat.blt 0 i.size && Nat.ble i.bytes 1048576 && Nat.blt (nx + 1) capB)
            (match newsS h i.size x with
              | some (n, cs) => match s with
                | .slice none 0 0 => cond (Nat.beq n 0) (some (.slice none 0 0, h, nx)) (cond (Nat.ble n 1048576) (some (.slice (some ⟨nx, 0, none⟩) n (capB + nx * 65536), h.set nx (.cells cs e i.size), nx + 1)) none)
                | s => match rowS G h e i.size s with
                  | some (b, len, old) => cond (Nat.ble (len + n) 1048576) (some (.slice (some ⟨nx, 0, none⟩) (len + n) (capB + nx * 65536), (h.del b).set nx (.cells (old ++ cs) e i.size), nx + 1)) none
                  | none => none
              | none => match x with
                | .slice none 0 _ => match s with
                  | .slice none 0 0 => some (.slice none 0 0, h, nx)
                  | s => match rowS G h e i.size s with
                    | some _ => some (s, h, nx)
                    | none => none
                | _ => none) none
        | none => none
      | none => none
    | _ => none) none
  | _ => none
theorem Den.kill (D : Den G w0 r h nx w) {b : Nat} (hb : b < nx) : Den G w0 r (h.del b) nx w := by
  have hs : ∀ i, (h.del b).get i = if b = i then none else h.get i := fun i => Tr.get_del (Nat.lt_trans hb D.big)
  have hne : ∀ i o, (h.del b).get i = some o → h.get i = some o := fun i o hi => by
    rw [hs] at hi
    split at hi
    · cases hi
    · exact hi
  have hne2 : ∀ i, (h.del b).get i ≠ none → h.get i ≠ none := fun i hi => by
    cases e : (h.del b).get i with
    | none => exact absurd e hi
    | some o => rw [hne i o e]; simp
  exact ⟨D.bel, D.glo, D.gle, D.gsz, D.big, D.low, fun i j hi hj => D.inj i j (hne2 i hi) (hne2 j hj), fun i hi => D.dom i (hne2 i hi), fun i o hi => D.lt i o (hne i o hi), fun i o hi => D.obj i o (hne i o hi)⟩
/-- The heap has grown; one row, which is not spoken of, may have turned. -/
theorem Den.grow (D : Den G w0 r h nx w) {w' : World} {k : Nat} (hg : w.grownBy w' (some k)) (hk : w0.heap.size ≤ k) (hf : ∀ i, h.get i ≠ none → r.blk i ≠ k) : Den G w0 r h nx w' := by
  have hlt : ∀ i, h.get i ≠ none → r.blk i < w.heap.size := fun i hi => by
    by_cases hgi : i < G
    · rw [D.glo i hgi]; exact Nat.lt_of_lt_of_le hgi (Nat.le_trans D.gsz D.bel.size)
    · exact (D.low i (by omega) (D.dom i hi)).2
  refine ⟨D.bel.trans ⟨hg.os, hg.tape, hg.output, hg.size, fun j hj => hg.block j (Nat.lt_of_lt_of_le hj D.bel.size) (by intro e; cases e; omega)⟩, D.glo, D.gle, D.gsz, D.big, fun i h1 h2 => ⟨(D.low i h1 h2).1, Nat.lt_of_lt_of_le (D.low i h1 h2).2 hg.size⟩, D.inj, D.dom, D.lt, fun i o hi => (D.obj i o hi).keep (hg.block _ (hlt i (by rw [hi]; simp)) ?_)⟩
  intro e
  cases e
  exact hf i (by rw [hi]; simp) rfl
/-- A new object in a block that nothing else is in. -/
theorem Den.lay (D : Den G w0 r h nx w) (hbig : nx + 1 < capB) {b c : Nat} (hb : w0.heap.size ≤ b ∧ b < w.heap.size) (hf : ∀ i, h.get i ≠ none → r.blk i ≠ b) {o : SObj} (ho : ObjLt (nx + 1) o) (hat : ObjAt (Den.newR r nx b c) w nx o) : Den G w0 (Den.newR r nx b c) (h.set nx o) (nx + 1) w := by
  have ag := Den.newR_agree r nx b c
  have hnx : (Den.newR r nx b c).blk nx = b := by simp [Den.newR]
  have old : ∀ i, i < nx → (Den.newR r nx b c).blk i = r.blk i := fun i hi => (ag i hi).1.symm
  have hs : ∀ i, (h.set nx o).get i = if nx = i then some o else h.get i := fun i => Tr.get_set D.big
  refine ⟨D.bel, fun g hg => ?_, Nat.le_succ_of_le D.gle, D.gsz, hbig, fun i h1 h2 => ?_, fun i j hi hj e => ?_, fun i hi => ?_, fun i x hi => ?_, fun i x hi => ?_⟩
  · rw [old g (Nat.lt_of_lt_of_le hg D.gle)]; exact D.glo g hg
  · by_cases e : i = nx
    · subst e; rw [hnx]; exact hb
    · rw [old i (by omega)]; exact D.low i h1 (by omega)
  · rw [hs] at hi hj
    by_cases ei : nx = i
    · by_cases ej : nx = j
      · omega
      · subst ei
        rw [if_neg ej] at hj
        rw [hnx, old j (D.dom j hj)] at e
        exact absurd e.symm (hf j hj)
    · by_cases ej : nx = j
      · subst ej
        rw [if_neg ei] at hi
        rw [hnx, old i (D.dom i hi)] at e
        exact absurd e (hf i hi)
      · rw [if_neg ei] at hi; rw [if_neg ej] at hj
        rw [old i (D.dom i hi), old j (D.dom j hj)] at e
        exact D.inj i j hi hj e
  · rw [hs] at hi
    by_cases ei : nx = i
    · omega
    · rw [if_neg ei] at hi; have := D.dom i hi; omega
  · rw [hs] at hi
    by_cases ei : nx = i
    · rw [if_pos ei] at hi; cases hi; exact ho
    · rw [if_neg ei] at hi; exact (D.lt i x hi).mono (Nat.le_succ _)
  · rw [hs] at hi
    by_cases ei : nx = i
    · rw [if_pos ei] at hi; cases hi; subst ei; exact hat
    · rw [if_neg ei] at hi; exact (D.obj i x hi).same ag (D.dom i (by rw [hi]; simp)) (D.lt i x hi)
theorem append_nothing {t e : TypeId} {i : TypeInfo} (hu : P.underlying t = some (.slice e)) (hi : P.info? e = some i) (base : Option Addr) (len cap c : Nat) (hle : len ≤ cap) (ty : TypeId) (w : World) : (Builtin.append_ #[t, t] ty #[.slice base len cap, .slice none 0 c]).run P w = .ok (.slice base len cap) w := by
  cases base <;> simp [Builtin.append_, run_underlying hu, sizeOf, typeInfo, hi, Builtin.lenOf, hle, Builtin.firstCells, storeCells]
theorem capOf_open (r : Ren) (b : Nat) : r.capOf (capB + b * 65536) = r.cap b := by
  unfold Ren.capOf
  rw [if_neg (by omega), Nat.add_sub_cancel_left, Nat.mul_div_cancel _ (by decide), Nat.mul_mod_left, Nat.sub_zero]
theorem open_lt (b : Nat) : (capB + b * 65536 - capB) / 65536 = b := by rw [Nat.add_sub_cancel_left, Nat.mul_div_cancel _ (by decide)]
/-- Behind an append that laid something. -/
theorem append_laid (D : Den G w0 r h nx w) (hbig : nx + 1 < capB) {w' : World} {e : TypeId} {size m : Nat} {cs : List Value} {v' : Value} {row : Option Nat} (hown : w'.ownsRow w0.heap.size e size v' m (renL r cs)) (hnn : v' ≠ .slice none 0 0) (hg : w.grownBy w' row) (hsz : 0 < size) (hcl : LtL nx cs)
    (hrow : ∀ k, row = some k → w0.heap.size ≤ k ∧ ∀ i, h.get i ≠ none → r.blk i ≠ k) (hnew : ∀ k, v'.ownBlock = some k → row = some k ∨ w.heap.size ≤ k) :
    ∃ r', v' = ren r' (.slice (some ⟨nx, 0, none⟩) m (capB + nx * 65536)) ∧ Agree nx r r' ∧ Lt (nx + 1) (.slice (some ⟨nx, 0, none⟩) m (capB + nx * 65536)) ∧ Den G w0 r' (h.set nx (.cells cs e size)) (nx + 1) w' := by
  obtain ⟨hl, hcase⟩ := hown
  rcases hcase with ⟨rfl, -⟩ | ⟨g, cap, cur, rfl, hbg, hh, hnc, hcm, hcs, htake⟩
  · exact absurd rfl hnn
  · have D' : Den G w0 r h nx w' := by
      cases row with
      | none => exact D.more ⟨hg.os, hg.tape, hg.output, hg.size, fun k hk => hg.block k hk (by simp)⟩
      | some k => exact D.grow hg (hrow k rfl).1 (hrow k rfl).2
    have hlt : g < w'.heap.size := (Array.getElem?_eq_some_iff.1 hh).1
    have hfree : ∀ i, h.get i ≠ none → r.blk i ≠ g := fun i hi e => by
      rcases hnew g rfl with hr | hr
      · exact (hrow g hr).2 i hi e
      · by_cases hgi : i < G
        · have h1 := D.glo i hgi
          have h2 := Nat.le_trans D.gsz D.bel.size
          omega
        · have := (D.low i (by omega) (D.dom i hi)).2; omega
    have ag := Den.newR_agree r nx g cap
    have hcur : cur.toList = renL r cs ++ cur.toList.drop (m * size) := by rw [← htake, List.take_append_drop]
    refine ⟨Den.newR r nx g cap, ?_, ag, ?_, D'.lay hbig ⟨hbg, hlt⟩ hfree (LtL.mono (Nat.le_succ _) hcl) ⟨cur.toList.drop (m * size), ?_, ?_⟩⟩
    · simp only [ren, Ren.addr, capOf_open]
      simp [Den.newR]
    · simp only [Lt]
      exact ⟨Nat.lt_succ_self _, fun _ => by rw [open_lt]; exact Nat.lt_succ_self _⟩
    · have e1 : (Den.newR r nx g cap).blk nx = g := by simp [Den.newR]
      rw [e1, ← LtL.same ag hcl, ← hcur, hh]
    · rw [if_neg (by omega)]
      have e2 : (Den.newR r nx g cap).cap nx = cap := by simp [Den.newR]
      rw [e2]
      refine ⟨?_, hcm⟩
      have h3 : cs.length = m * size := by rw [← renL_len r cs, hl]
      have : m * size ≤ cap * size := Nat.mul_le_mul_right _ hnc
      rw [h3, List.length_drop, Array.length_toList, hcs]
      omega
theorem ren_nil (r : Ren) : ren r (.slice none 0 0) = .slice none 0 0 := by simp [ren]
theorem appendS_sound (D : Den G w0 r h nx w) {ats : Array TypeId} {ty : TypeId} {s x u : Value} {h' : Tr SObj} {nx' : Nat} (hls : Lt nx s) (hs : appendS P G h nx ats.toList s x = some (u, h', nx')) : Made G w0 r nx w u h' nx' ((Builtin.append_ ats ty #[ren r s, ren r x]).run P w) := by
  unfold appendS at hs
  split at hs
  case h_2 => cases hs
  rename_i t t' hats
  have hat : ats = #[t, t'] := by rw [← Array.toList_inj]; exact hats
  subst hat
  clear hats
  cases hc : Nat.beq t t' with
  | false => rw [hc] at hs; cases hs
  | true =>
    rw [hc, cond_true] at hs
    have ht : t = t' := Nat.eq_of_beq_eq_true hc
    subst ht
    split at hs
    case h_2 => cases hs
    rename_i e hu
    split at hs
    case h_2 => cases hs
    rename_i i hi
    split at hs
    case h_2 => cases hs
    rename_i z hz
    cases hd : (Nat.beq z.cells.size i.size && Nat.blt 0 i.size && Nat.ble i.bytes 1048576 && Nat.blt (nx + 1) capB) with
    | false => rw [hd] at hs; cases hs
    | true =>
      rw [hd, cond_true] at hs
      simp only [Bool.and_eq_true] at hd
      obtain ⟨⟨⟨d1, d2⟩, d3⟩, d4⟩ := hd
      have d1 : z.cells.size = i.size := Nat.eq_of_beq_eq_true d1
      have d2 := blt_lt d2
      have d3 := Nat.le_of_ble_eq_true d3
      have d4 := blt_lt d4
      have hB : w0.heap.size ≤ w.heap.size := D.bel.size
      have hmul : ∀ k, k ≤ 1048576 → k * i.bytes ≤ 140737488355328 := fun k hk => Nat.le_trans (Nat.mul_le_mul hk d3) (by decide)
      have hmax : ∀ k, k ≤ 1048576 → k ≤ maxLen := fun k hk => Nat.le_trans hk (by decide)
      split at hs
      · rename_i n cs hnews
        obtain ⟨a, c, hx, hl, hcells, hone, hlt⟩ := newsS_sound D hnews
        rw [hx]
        split at hs
        · cases hn0 : Nat.beq n 0 with
          | true =>
            rw [hn0, cond_true] at hs
            cases hs
            have hn : n = 0 := Nat.eq_of_beq_eq_true hn0
            subst hn
            obtain ⟨v', w', h1, h2, h3, h4, h5⟩ := run_append_own_at (P := P) (w := w) w0.heap.size t ty e i z i.size i.bytes hu hi hz rfl rfl d1 d2 (.slice none 0 0) 0 [] (World.ownsRow_nil w _ e _) a 0 c _ hl hcells hone (by decide) (by simp) hB
            have hv : v' = .slice none 0 0 := h4.2 ⟨rfl, rfl⟩
            subst hv
            exact ⟨r, w', by rw [ren_nil]; exact h1, Agree.refl _ _, Nat.le_refl _, by simp [Lt], D.more ⟨h3.os, h3.tape, h3.output, h3.size, fun k hk => h3.block k hk (by simp [Value.ownBlock])⟩⟩
          | false =>
            rw [hn0, cond_false] at hs
            cases hn1 : Nat.ble n 1048576 with
            | false => rw [hn1] at hs; cases hs
            | true =>
              rw [hn1, cond_true] at hs
              cases hs
              have hle := Nat.le_of_ble_eq_true hn1
              have hpos : n ≠ 0 := Nat.ne_of_beq_eq_false hn0
              obtain ⟨v', w', h1, h2, h3, h4, h5⟩ := run_append_own_at (P := P) (w := w) w0.heap.size t ty e i z i.size i.bytes hu hi hz rfl rfl d1 d2 (.slice none 0 0) 0 [] (World.ownsRow_nil w _ e _) a n c _ hl hcells hone (hmax _ (by omega)) (hmul _ (by omega)) hB
              rw [Nat.zero_add, List.nil_append] at h2
              have hnn : v' ≠ .slice none 0 0 := fun hv => hpos (h4.1 hv).2
              have hnew : ∀ k, v'.ownBlock = some k → (Value.ownBlock (.slice none 0 0)) = some k ∨ w.heap.size ≤ k := fun k hk => by
                rcases h5 with h5 | h5
                · rw [h5] at hk; simp [Value.ownBlock] at hk
                · rw [h5] at hk; cases hk; exact .inr (Nat.le_refl _)
              obtain ⟨r', e1, e2, e3, e4⟩ := append_laid D d4 h2 hnn h3 d2 hlt (fun k hk => by simp [Value.ownBlock] at hk) hnew
              exact ⟨r', w', by rw [ren_nil, h1, e1], e2, Nat.le_succ _, e3, e4⟩
        · split at hs
          case h_2 => cases hs
          rename_i b len old hrow
          cases hn1 : Nat.ble (len + n) 1048576 with
          | false => rw [hn1] at hs; cases hs
          | true =>
            rw [hn1, cond_true] at hs
            cases hs
            have hle := Nat.le_of_ble_eq_true hn1
            obtain ⟨q1, q2, q3, q4, q5, ⟨c0, t0, o0, q6⟩, q7⟩ := rowS_sound D hrow
            obtain ⟨v', w', h1, h2, h3, h4, h5⟩ := run_append_own_at (P := P) (w := w) w0.heap.size t ty e i z i.size i.bytes hu hi hz rfl rfl d1 d2 (ren r s) len (renL r old) q1 a n c _ hl hcells hone (hmax _ hle) (hmul _ hle) hB
            rw [← renL_app] at h2
            have hnn : v' ≠ .slice none 0 0 := fun hv => by
              have := (h4.1 hv).1
              rw [this] at q2
              simp [Value.ownBlock] at q2
            have hblo := D.low b q3 q4
            have hnew : ∀ k, v'.ownBlock = some k → (ren r s).ownBlock = some k ∨ w.heap.size ≤ k := fun k hk => by
              rcases h5 with h5 | h5
              · exact .inl (h5 ▸ hk)
              · rw [h5] at hk; cases hk; exact .inr (Nat.le_refl _)
            have hget : ∀ j, (h.del b).get j = if b = j then none else h.get j := fun j => Tr.get_del (Nat.lt_trans q4 D.big)
            have hrow2 : ∀ k, (ren r s).ownBlock = some k → w0.heap.size ≤ k ∧ ∀ j, (h.del b).get j ≠ none → r.blk j ≠ k := fun k hk => by
              rw [q2] at hk
              cases hk
              refine ⟨hblo.1, fun j hj e2 => ?_⟩
              rw [hget] at hj
              by_cases ej : b = j
              · rw [if_pos ej] at hj; exact hj rfl
              · rw [if_neg ej] at hj
                exact ej (D.inj j b hj (by rw [q6]; simp) e2).symm
            obtain ⟨r', e1, e2, e3, e4⟩ := append_laid (D.kill q4) d4 h2 hnn h3 d2 (q5.app hlt) hrow2 hnew
            exact ⟨r', w', by rw [h1, e1], e2, Nat.le_succ _, e3, e4⟩
      · split at hs
        case h_2 => cases hs
        rename_i c0 hnone
        rw [show ren r (.slice none 0 c0) = .slice none 0 c0 by simp [ren]]
        split at hs
        · cases hs
          exact ⟨r, w, by rw [ren_nil]; exact append_nothing hu hi none 0 0 c0 (Nat.le_refl _) ty w, Agree.refl _ _, Nat.le_refl _, by simp [Lt], D⟩
        · split at hs
          case h_2 => cases hs
          rename_i q hrow
          obtain ⟨b, len, old⟩ := q
          cases hs
          obtain ⟨q1, q2, q3, q4, q5, q6, q7⟩ := rowS_sound D hrow
          obtain ⟨-, ⟨hv, -⟩ | ⟨g, cap, cur, hv, -, -, hnc, -⟩⟩ := q1
          · rw [hv] at q2; simp [Value.ownBlock] at q2
          · exact ⟨r, w, by rw [hv]; exact append_nothing hu hi _ _ _ c0 hnc ty w, Agree.refl _ _, Nat.le_refl _, hls, D⟩
end Go.Rn
/-
  A symbolic world: one operation. Condition: no function of the program is runtime.NumGoroutine.
-/
namespace Go.Rn
open Go.RowKit Go.MapKept
set_option linter.unusedVariables false
set_option linter.unusedSimpArgs false
variable {P : Program} {G : Nat} {w0 : World} {r : Ren} {h : Tr SObj} {nx : Nat} {w : World}
inductive SR where
  | val (v : Value) (h : Tr SObj) (nx : Nat)
  | call (f : FuncId) (args : List Value)
/-- A frame's values by number; constants. -/
noncomputable def evS (G : Nat) (T : Tr Value) : Operand → Option Value
  | .tmp t => match T.get t with
    | some v => some v
    | none => some undef
  | .const v => cond (bare v) (some v) none
  | .global g => cond (Nat.blt g G) (some (.pointer (some ⟨g, 0, none⟩))) none
  | .func f => some (.func (.func f) #[] #[])
/-- The frame means this. -/
structure Fits (G : Nat) (r : Ren) (nx : Nat) (T : Tr Value) (a : Act) : Prop where
  val : ∀ t, a.tmps.getD t undef = ren r ((T.get t).getD undef)
  lt : ∀ t v, T.get t = some v → Lt nx v
theorem undef_ren (r : Ren) : ren r undef = undef := by simp [undef, noResult, ren, renA, renL]
theorem undef_lt (n : Nat) : Lt n undef := by simp [undef, noResult, Lt, LtA, LtL]
theorem evS_sound (D : Den G w0 r h nx w) {T : Tr Value} {a : Act} (F : Fits G r nx T a) {x : Operand} {v : Value} (hs : evS G T x = some v) : a.eval x = ren r v ∧ Lt nx v := by
  unfold evS at hs
  split at hs
  · rename_i t
    have hv := F.val t
    split at hs
    · rename_i u hu
      cases hs
      rw [hu] at hv
      exact ⟨hv, F.lt t _ hu⟩
    · rename_i hu
      cases hs
      rw [hu] at hv
      exact ⟨hv, undef_lt _⟩
  · rename_i u
    cases hb : bare u with
    | false => rw [hb] at hs; cases hs
    | true =>
      rw [hb, cond_true] at hs
      cases hs
      exact ⟨(bare_ren hb).symm, bare_lt hb⟩
  · rename_i g
    cases hb : Nat.blt g G with
    | false => rw [hb] at hs; cases hs
    | true =>
      rw [hb, cond_true] at hs
      cases hs
      have := blt_lt hb
      exact ⟨by simp [Act.eval, ren, Ren.addr, D.glo g this], by simp only [Lt]; exact Nat.lt_of_lt_of_le this D.gle⟩
  · cases hs
    exact ⟨by simp [Act.eval, ren, renA, renL], by simp [Lt, LtA, LtL]⟩
/-- The values of several operands. -/
noncomputable def evL (G : Nat) (T : Tr Value) (xs : List Operand) : Option (List Value) :=
  List.rec (motive := fun _ => Option (List Value)) (some []) (fun x _ ih => match evS G T x with
    | some v => match ih with
      | some l => some (v :: l)
      | none => none
    | none => none) xs
theorem evL_cons (T : Tr Value) (x : Operand) (xs : List Operand) : evL G T (x :: xs) = match evS G T x with
    | some v => match evL G T xs with
      | some l => some (v :: l)
      | none => none
    | none => none := rfl
/-- Parts with numbers. -/
noncomputable def evP (G : Nat) (T : Tr Value) (xs : List (Nat × Operand)) : Option (List (Nat × Value)) :=
  List.rec (motive := fun _ => Option (List (Nat × Value))) (some []) (fun x _ ih => match evS G T x.2 with
    | some v => match ih with
      | some l => some ((x.1, v) :: l)
      | none => none
    | none => none) xs
theorem evP_cons (T : Tr Value) (x : Nat × Operand) (xs : List (Nat × Operand)) : evP G T (x :: xs) = match evS G T x.2 with
    | some v => match evP G T xs with
      | some l => some ((x.1, v) :: l)
      | none => none
    | none => none := rfl
noncomputable def nilCheckS : Value → Option Value
  | .pointer (some a) => some (.pointer (some a))
  | .func (.func f) a b => some (.func (.func f) a b)
  | .iface t v => some (.iface t v)
  | _ => none
noncomputable def lenS (P : Program) (h : Tr SObj) (t : TypeId) : Value → Option Value
  | .string s => match P.underlying t with
    | some .string => some (.int .i64 (s.data.toList.length : Nat))
    | _ => none
  | .slice _ n _ => match P.underlying t with
    | some (.slice _) => some (.int .i64 (n : Nat))
    | _ => none
  | .map none => match P.underlying t with
    | some (.map _ _) => some (.int .i64 0)
    | _ => none
  | .map (some id) => match P.underlying t with
    | some (.map _ _) => match h.get id with
      | some (.map es) => some (.int .i64 (es.length : Nat))
      | _ => none
    | _ => none
  | _ => none
/-- A function of the program that has a body. -/
noncomputable def goesS (P : Program) (f : FuncId) (args : List Value) : Option SR :=
  match P.funcs[f]? with
  | some fn => match fn.body with
    | some _ => some (.call f args)
    | none => none
  | none => none
noncomputable def methodS (P : Program) (t : TypeId) (v : Value) (name : String) : Option (FuncId × Value) :=
  match P.info? t with
  | some i => match i.methods.toList.find? (fun m => m.name == name) with
    | some m => match m.path.toList with
      | [] => match m.func with
        | some (f, p) => match P.underlying t with
          | some d => match d with
            | .pointer _ => cond p (some (f, v)) none
            | _ => cond p none (some (f, v))
          | none => none
        | none => none
      | _ => none
    | none => none
  | none => none
/-- One operation. -/
noncomputable def opS (P : Program) (G : Nat) (T : Tr Value) (h : Tr SObj) (nx : Nat) (o : Oper) : Option SR :=
  let pure1 (x : Option Value) : Option SR := match x with
    | some v => some (.val v h nx)
    | none => none
  let made (x : Option (Value × Tr SObj)) : Option SR := match x with
    | some (v, h') => some (.val v h' (nx + 1))
    | none => none
  let wrote (x : Option (Tr SObj)) : Option SR := match x with
    | some h' => some (.val undef h' nx)
    | none => none
  match o.op with
  | .move x => pure1 (evS G T x)
  | .assign x => pure1 (evS G T x)
  | .pick c a b => match evS G T c with
    | some (.bool t) => match evS G T a, evS G T b with
      | some x, some y => some (.val (cond t x y) h nx)
      | _, _ => none
    | _ => none
  | .alloc t => made (allocS P h nx t)
  | .box t x => match evS G T x with
    | some v => made (boxS h nx t v)
    | none => none
  | .build t ps => match evP G T ps.toList with
    | some l => pure1 (buildS P t l)
    | none => none
  | .buildSlice t n ps => match evP G T ps.toList with
    | some l => cond (Nat.blt n capB) (made (buildSliceS P h nx t n l)) none
    | none => none
  | .load t x => match evS G T x with
    | some v => pure1 (loadS P h t v)
    | none => none
  | .store t x y => match evS G T x, evS G T y with
    | some v, some u => wrote (storeS P G h t u v)
    | _, _ => none
  | .nilCheck x => match evS G T x with
    | some v => pure1 (nilCheckS v)
    | none => none
  | .binOp op t x y _ => match evS G T x, evS G T y with
    | some v, some u => pure1 (binS P op t v u)
    | _, _ => none
  | .unOp op _ x => match evS G T x with
    | some v => pure1 (unS op v)
    | none => none
  | .convert s d x => match evS G T x with
    | some v => pure1 (convS P s d v)
    | none => none
  | .makeInterface t x => match evS G T x with
    | some v => match P.underlying t with
      | some (.interface _) => none
      | some _ => some (.val (.iface t v) h nx)
      | none => none
    | none => none
  | .makeFunc fn a b => match evL G T a.toList, evL G T b.toList with
    | some l, some m => some (.val (.func fn l.toArray m.toArray) h nx)
    | _, _ => none
  | .makeMap t none => cond (Nat.blt (nx + 1) capB) (some (.val (.map (some nx)) (h.set nx (.map [])) (nx + 1))) none
  | .insert t m k v | .mapUpdate t m k v => match evS G T m, evS G T k, evS G T v with
    | some a, some b, some c => wrote (mapUpdateS P G h t a b c)
    | _, _, _ => none
  | .slice t x lo hi none => match evS G T x with
    | some v => match lo with
      | none => match hi with
        | none => pure1 (sliceS P h t v none none)
        | some b => match evS G T b with
          | some b => pure1 (sliceS P h t v none (some b))
          | none => none
      | some a => match evS G T a with
        | some a => match hi with
          | none => pure1 (sliceS P h t v (some a) none)
          | some b => match evS G T b with
            | some b => pure1 (sliceS P h t v (some a) (some b))
            | none => none
        | none => none
    | none => none
  | .fieldAddr t x f => match evS G T x with
    | some v => pure1 (fieldAddrS P t v f)
    | none => none
  | .field t x f => match evS G T x with
    | some v => pure1 (fieldS P t v f)
    | none => none
  | .indexAddr t x i => match evS G T x, evS G T i with
    | some v, some u => pure1 (indexAddrS P t v u)
    | _, _ => none
  | .index t x i => match evS G T x, evS G T i with
    | some v, some u => pure1 (indexS P t v u)
    | _, _ => none
  | .lookup t x i ok => match evS G T x, evS G T i with
    | some v, some u => pure1 (lookupS P h t v u ok)
    | _, _ => none
  | .extract x i => match evS G T x with
    | some v => pure1 (extractS v i)
    | none => none
  | .call c => match c.callee with
    | .value x => match evS G T x with
      | some (.func (.func f) first captured) => match evL G T c.args.toList with
        | some l => goesS P f (first.toList ++ l ++ captured.toList)
        | none => none
      | _ => none
    | .invoke x name => match evS G T x with
      | some (.iface t v) => match methodS P t v name with
        | some (f, rc) => match evL G T c.args.toList with
          | some l => goesS P f (rc :: l)
          | none => none
        | none => none
      | _ => none
    | .builtin b => match b with
      | .len => match c.args.toList with
        | [x] => match evS G T x with
          | some v => match c.argTypes.toList with
            | [t] => pure1 (lenS P h t v)
            | _ => none
          | none => none
        | _ => none
      | .append => match c.args.toList with
        | [x, y] => match evS G T x, evS G T y with
          | some v, some u => match appendS P G h nx c.argTypes.toList v u with
            | some (z, h', n) => some (.val z h' n)
            | none => none
          | _, _ => none
        | _ => none
      | _ => none
  | _ => none
/-- What an operation's run has come to. -/
def SR.Holds (G : Nat) (w0 : World) (r : Ren) (nx : Nat) (w : World) : SR → Result Next → Prop
  | .val v h' nx', res => ∃ r' w', ((res = .ok (.value (ren r' v)) w') ∨ (res = .ok .skip w' ∧ v = undef)) ∧ Agree nx r r' ∧ nx ≤ nx' ∧ Lt nx' v ∧ Den G w0 r' h' nx' w'
  | .call f args, res => res = .ok (.enter f (renL r args).toArray) w ∧ LtL nx args
end Go.Rn
/-
  A symbolic world: one operation answers as the model's. Condition: no function of the program is runtime.NumGoroutine.
-/
namespace Go.Rn
open Go.RowKit Go.MapKept
set_option linter.unusedVariables false
set_option linter.unusedSimpArgs false
variable {P : Program} {G : Nat} {w0 : World} {r : Ren} {h : Tr SObj} {nx : Nat} {w : World} {T : Tr Value} {a : Act}
/-- No function of the program is that one. -/
def NoNG (P : Program) : Prop := ∀ (f : FuncId) (fn : Func), P.funcs[f]? = some fn → (fn.name == "runtime.NumGoroutine") = false
theorem holds_pure (D : Den G w0 r h nx w) {s : Sem Value} {v : Value} (hr : s.run P w = .ok (ren r v) w ∧ Lt nx v) : (SR.val v h nx).Holds G w0 r nx w ((do pure (.value (← s)) : Sem Next).run P w) :=
  ⟨r, w, .inl (by simp only [Sem.run_bind, hr.1, Result.andThen_ok, Sem.run_pure]), Agree.refl _ _, Nat.le_refl _, hr.2, D⟩
theorem holds_move (D : Den G w0 r h nx w) {v x : Value} (hx : x = ren r v) (hl : Lt nx v) : (SR.val v h nx).Holds G w0 r nx w ((pure (.value x) : Sem Next).run P w) :=
  ⟨r, w, .inl (by rw [hx]; rfl), Agree.refl _ _, Nat.le_refl _, hl, D⟩
theorem holds_made {s : Sem Value} {v : Value} {h' : Tr SObj} {nx' : Nat} (hm : Made G w0 r nx w v h' nx' (s.run P w)) : (SR.val v h' nx').Holds G w0 r nx w ((do pure (.value (← s)) : Sem Next).run P w) := by
  obtain ⟨r', w', h1, h2, h3, h4, h5⟩ := hm
  exact ⟨r', w', .inl (by simp only [Sem.run_bind, h1, Result.andThen_ok, Sem.run_pure]), h2, h3, h4, h5⟩
theorem holds_wrote {s : Sem Unit} {h' : Tr SObj} (hm : ∃ w', s.run P w = .ok () w' ∧ Den G w0 r h' nx w') : (SR.val undef h' nx).Holds G w0 r nx w ((do s; pure .skip : Sem Next).run P w) := by
  obtain ⟨w', h1, h2⟩ := hm
  exact ⟨r, w', .inr ⟨by simp only [Sem.run_bind, h1, Result.andThen_ok, Sem.run_pure], rfl⟩, Agree.refl _ _, Nat.le_refl _, undef_lt _, h2⟩
theorem nilCheckS_sound {x u : Value} (hs : nilCheckS x = some u) : u = x ∧ ((∃ b, x = .pointer (some b)) ∨ (∃ f b c, x = .func (.func f) b c) ∨ ∃ t v, x = .iface t v) := by
  unfold nilCheckS at hs
  split at hs <;> cases hs
  · exact ⟨rfl, .inl ⟨_, rfl⟩⟩
  · exact ⟨rfl, .inr (.inl ⟨_, _, _, rfl⟩)⟩
  · exact ⟨rfl, .inr (.inr ⟨_, _, rfl⟩)⟩
theorem lenS_sound (D : Den G w0 r h nx w) {t : TypeId} {x u : Value} {ty : TypeId} (hs : lenS P h t x = some u) : (Builtin.len_ #[t] ty #[ren r x]).run P w = .ok (ren r u) w ∧ Lt nx u := by
  unfold lenS at hs
  split at hs
  · split at hs
    case h_2 => cases hs
    rename_i s _ hu
    cases hs
    refine ⟨?_, by simp [Lt]⟩
    simp only [ren]
    simp only [Builtin.len_, Sem.run_bind, run_underlying hu, Result.andThen_ok, List.getElem?_toArray, List.getElem?_cons_zero, Sem.run_pure, goInt, size_data]
  · split at hs
    case h_2 => cases hs
    rename_i b n c _ e hu
    cases hs
    refine ⟨?_, by simp [Lt]⟩
    cases b <;> simp only [ren, Builtin.len_, Sem.run_bind, run_underlying hu, Result.andThen_ok, List.getElem?_toArray, List.getElem?_cons_zero, Sem.run_pure, goInt]
  · split at hs
    case h_2 => cases hs
    rename_i _ kt e hu
    cases hs
    refine ⟨?_, by simp [Lt]⟩
    simp only [ren, Builtin.len_, Sem.run_bind, run_underlying hu, Result.andThen_ok, List.getElem?_toArray, List.getElem?_cons_zero, Sem.run_pure, goInt]
  · split at hs
    case h_2 => cases hs
    rename_i id _ kt e hu
    split at hs
    case h_2 => cases hs
    rename_i es hid
    cases hs
    refine ⟨?_, by simp [Lt]⟩
    obtain ⟨en, clock, hh, hl⟩ := map_at D hid
    have hsz : en.size = es.length := by rw [← hl.len, Array.length_toList]
    simp only [ren, Builtin.len_, Sem.run_bind, run_underlying hu, Result.andThen_ok, List.getElem?_toArray, List.getElem?_cons_zero, MapKept.run_getObj_map hh, Sem.run_pure, goInt, hsz]
  · cases hs
theorem goesS_sound (hng : NoNG P) {f : FuncId} {args : List Value} {s : SR} (hl : LtL nx args) (hs : goesS P f args = some s) {xs : Array Value} (hx : xs = (renL r args).toArray) : s.Holds G w0 r nx w ((callFunc f xs).run P w) := by
  unfold goesS at hs
  split at hs
  case h_2 => cases hs
  rename_i fn hf
  split at hs
  case h_2 => cases hs
  rename_i c hb
  cases hs
  subst hx
  refine ⟨?_, hl⟩
  unfold callFunc
  simp only [Sem.run_bind, program, Sem.run, Result.andThen_ok, hf, hng f fn hf, Bool.false_eq_true, if_false, hb, Option.isNone_some]
  rfl
theorem methodS_sound {t : TypeId} {v : Value} {name : String} {f : FuncId} {rc : Value} (hs : methodS P t v name = some (f, rc)) (n : Nat) (w : World) : (method (n + 1) t (ren r v) name).run P w = .ok (f, ren r rc) w ∧ rc = v := by
  unfold methodS at hs
  split at hs
  case h_2 => cases hs
  rename_i i hi
  split at hs
  case h_2 => cases hs
  rename_i m hm
  split at hs
  case h_2 => cases hs
  rename_i hp
  split at hs
  case h_2 => cases hs
  rename_i g p hf
  split at hs
  case h_2 => cases hs
  rename_i d hd
  rw [Array.find?_toList] at hm
  have hti : (typeInfo t).run P w = .ok i w := by simp [typeInfo, hi]
  split at hs
  · rename_i e
    cases p with
    | false => cases hs
    | true =>
      rw [cond_true] at hs
      cases hs
      refine ⟨?_, rfl⟩
      unfold method
      simp only [Sem.run_bind, hti, Result.andThen_ok, hm, hp, follow, Sem.run_pure, hf, receiverAt, run_underlying hd, Place.get]
  · rename_i hne
    cases p with
    | true => cases hs
    | false =>
      rw [cond_false] at hs
      cases hs
      refine ⟨?_, rfl⟩
      unfold method
      simp only [Sem.run_bind, hti, Result.andThen_ok, hm, hp, follow, Sem.run_pure, hf, receiverAt, run_underlying hd]
      cases d <;> first | (exact absurd rfl (hne _)) | simp only [Sem.run_bind, Place.get, Sem.run_pure, Result.andThen_ok]
theorem app_cons (x : Value) (l : List Value) : (#[x] ++ l.toArray : Array Value) = (x :: l).toArray := by
  apply Array.ext'
  simp
theorem app_head (x : Value) (l : List Value) : (#[x] ++ l.toArray : Array Value)[0]? = some x := by
  rw [app_cons, List.getElem?_toArray]; rfl
theorem args_ren {xs : Array Operand} {l : List Value} (hx : xs.toList.map a.eval = renL r l) : xs.map a.eval = (renL r l).toArray := by
  rw [← Array.toList_inj, Array.toList_map, hx]
theorem evL_on : ∀ {xs : List Operand} {l : List Value}, (∀ x, x ∈ xs → ∀ v, evS G T x = some v → a.eval x = ren r v ∧ Lt nx v) → evL G T xs = some l → xs.map a.eval = renL r l ∧ LtL nx l
  | [], l, E, hs => by
    have : ([] : List Value) = l := Option.some.inj hs
    subst this; simp [renL, LtL]
  | x :: xs, l, E, hs => by
    rw [evL_cons] at hs
    split at hs
    case h_2 => cases hs
    rename_i v hv
    split at hs
    case h_2 => cases hs
    rename_i m hm
    cases hs
    obtain ⟨e1, e2⟩ := E x (by simp) v hv
    obtain ⟨e3, e4⟩ := evL_on (fun y hy => E y (by simp [hy])) hm
    exact ⟨by rw [List.map_cons, e1, e3]; simp [renL], by simp only [LtL]; exact ⟨e2, e4⟩⟩
theorem evP_on : ∀ {xs : List (Nat × Operand)} {l : List (Nat × Value)}, (∀ x, x ∈ xs → ∀ v, evS G T x.2 = some v → a.eval x.2 = ren r v ∧ Lt nx v) → evP G T xs = some l → xs.map (fun x => (x.1, a.eval x.2)) = l.map (fun p => (p.1, ren r p.2)) ∧ ∀ p ∈ l, Lt nx p.2
  | [], l, E, hs => by
    have : ([] : List (Nat × Value)) = l := Option.some.inj hs
    subst this; simp
  | x :: xs, l, E, hs => by
    rw [evP_cons] at hs
    split at hs
    case h_2 => cases hs
    rename_i v hv
    split at hs
    case h_2 => cases hs
    rename_i m hm
    cases hs
    obtain ⟨e1, e2⟩ := E x (by simp) v hv
    obtain ⟨e3, e4⟩ := evP_on (fun y hy => E y (by simp [hy])) hm
    refine ⟨by rw [List.map_cons, List.map_cons, e1, e3], fun p hp => ?_⟩
    rcases List.mem_cons.1 hp with rfl | hp
    · exact e2
    · exact e4 p hp
theorem opS_sound (hng : NoNG P) (D : Den G w0 r h nx w) {o : Oper} (E : ∀ x, x ∈ o.op.operands → ∀ v, evS G T x = some v → a.eval x = ren r v ∧ Lt nx v) {s : SR} (hs : opS P G T h nx o = some s) : s.Holds G w0 r nx w ((execOp a.eval o).run P w) := by
  unfold opS at hs
  unfold execOp
  simp only at hs
  split at hs
  · rename_i x ho
    split at hs <;> cases hs
    rename_i v hv
    obtain ⟨e1, e2⟩ := E _ (by rw [ho]; simp [Op.operands]) _ hv
    simp only [ho]
    exact holds_move D e1 e2
  · rename_i x ho
    split at hs <;> cases hs
    rename_i v hv
    obtain ⟨e1, e2⟩ := E _ (by rw [ho]; simp [Op.operands]) _ hv
    simp only [ho]
    exact holds_move D e1 e2
  · rename_i c x y ho
    split at hs
    case h_2 => cases hs
    rename_i t hc
    split at hs
    case h_2 => cases hs
    rename_i u v hu hv
    cases hs
    obtain ⟨e1, e2⟩ := E _ (by rw [ho]; simp [Op.operands]) _ hc
    obtain ⟨e3, e4⟩ := E _ (by rw [ho]; simp [Op.operands]) _ hu
    obtain ⟨e5, e6⟩ := E _ (by rw [ho]; simp [Op.operands]) _ hv
    simp only [ho]
    refine ⟨r, w, .inl ?_, Agree.refl _ _, Nat.le_refl _, by cases t <;> assumption, D⟩
    simp only [Sem.run_bind, e1, ren, asBool, Sem.run_pure, Result.andThen_ok, e3, e5]
    cases t <;> rfl
  · rename_i t ho
    split at hs <;> cases hs
    rename_i v h' hv
    simp only [ho]
    exact holds_made (allocS_sound D hv)
  · rename_i t x ho
    split at hs
    case h_2 => cases hs
    rename_i v hv
    split at hs <;> cases hs
    rename_i u h' hu
    obtain ⟨e1, e2⟩ := E _ (by rw [ho]; simp [Op.operands]) _ hv
    simp only [ho, e1]
    exact holds_made (boxS_sound D e2 hu)
  · rename_i t ps ho
    split at hs
    case h_2 => cases hs
    rename_i l hl
    split at hs <;> cases hs
    rename_i u hu
    obtain ⟨e1, e2⟩ := evP_on (fun x hx2 v => E x.2 (by rw [ho]; simp only [Op.operands]; rw [← Array.mem_toList_iff]; exact List.mem_map.2 ⟨x, hx2, rfl⟩) v) hl
    simp only [ho]
    exact holds_pure D (buildS_sound e2 hu (by rw [Array.toList_map]; exact e1) w)
  · rename_i t n ps ho
    split at hs
    case h_2 => cases hs
    rename_i l hl
    cases hn : Nat.blt n capB with
    | false => rw [hn] at hs; cases hs
    | true =>
      rw [hn, cond_true] at hs
      split at hs <;> cases hs
      rename_i u h' hu
      obtain ⟨e1, e2⟩ := evP_on (fun x hx2 v => E x.2 (by rw [ho]; simp only [Op.operands]; rw [← Array.mem_toList_iff]; exact List.mem_map.2 ⟨x, hx2, rfl⟩) v) hl
      simp only [ho]
      exact holds_made (buildSliceS_sound D (blt_lt hn) e2 hu (by rw [Array.toList_map]; exact e1))
  · rename_i t x ho
    split at hs
    case h_2 => cases hs
    rename_i v hv
    split at hs <;> cases hs
    rename_i u hu
    obtain ⟨e1, e2⟩ := E _ (by rw [ho]; simp [Op.operands]) _ hv
    simp only [ho, e1]
    exact holds_pure D (loadS_sound D hu)
  · rename_i t x y ho
    split at hs
    case h_2 => cases hs
    rename_i v u hv hu
    split at hs <;> cases hs
    rename_i h' hw
    obtain ⟨e1, e2⟩ := E _ (by rw [ho]; simp [Op.operands]) _ hv
    obtain ⟨e3, e4⟩ := E _ (by rw [ho]; simp [Op.operands]) _ hu
    simp only [ho, e1, e3]
    exact holds_wrote (storeS_sound D e4 hw)
  · rename_i x ho
    split at hs
    case h_2 => cases hs
    rename_i v hv
    split at hs <;> cases hs
    rename_i u hu
    obtain ⟨e1, e2⟩ := E _ (by rw [ho]; simp [Op.operands]) _ hv
    obtain ⟨rfl, hc⟩ := nilCheckS_sound hu
    simp only [ho, e1]
    rcases hc with ⟨b, rfl⟩ | ⟨f, b, c, rfl⟩ | ⟨t, v, rfl⟩
    · exact holds_move D (by simp only [ren]) e2
    · exact holds_move D (by simp only [ren]) e2
    · exact holds_move D (by simp only [ren]) e2
  · rename_i op t x y yt ho
    split at hs
    case h_2 => cases hs
    rename_i v u hv hu
    split at hs <;> cases hs
    rename_i z hz
    obtain ⟨e1, e2⟩ := E _ (by rw [ho]; simp [Op.operands]) _ hv
    obtain ⟨e3, e4⟩ := E _ (by rw [ho]; simp [Op.operands]) _ hu
    simp only [ho, e1, e3]
    exact holds_pure D (binS_sound hz nx w)
  · rename_i op t x ho
    split at hs
    case h_2 => cases hs
    rename_i v hv
    split at hs <;> cases hs
    rename_i u hu
    obtain ⟨e1, e2⟩ := E _ (by rw [ho]; simp [Op.operands]) _ hv
    simp only [ho, e1]
    exact holds_pure D (unS_sound hu nx w)
  · rename_i sr ds x ho
    split at hs
    case h_2 => cases hs
    rename_i v hv
    split at hs <;> cases hs
    rename_i u hu
    obtain ⟨e1, e2⟩ := E _ (by rw [ho]; simp [Op.operands]) _ hv
    simp only [ho, e1]
    exact holds_pure D (convS_sound hu nx w)
  · rename_i t x ho
    split at hs
    case h_2 => cases hs
    rename_i v hv
    split at hs
    · cases hs
    · rename_i d hne hd
      cases hs
      obtain ⟨e1, e2⟩ := E _ (by rw [ho]; simp [Op.operands]) _ hv
      simp only [ho, e1]
      refine holds_pure D ⟨?_, by simp only [Lt]; exact e2⟩
      simp only [Instr.makeInterface, Sem.run_bind, run_underlying hd, Result.andThen_ok, ren]
      cases d <;> first | rfl | (exact absurd rfl (hne _))
    · cases hs
  · rename_i fn b c ho
    split at hs
    case h_2 => cases hs
    rename_i l m hl hm
    cases hs
    obtain ⟨e1, e2⟩ := evL_on (fun x hx2 v => E x (by rw [ho]; simp at hx2; simp [Op.operands, hx2]) v) hl
    obtain ⟨e3, e4⟩ := evL_on (fun x hx2 v => E x (by rw [ho]; simp at hx2; simp [Op.operands, hx2]) v) hm
    simp only [ho]
    refine holds_pure D ⟨?_, by simp only [Lt, LtA]; exact ⟨e2, e4⟩⟩
    rw [args_ren e1, args_ren e3]
    simp only [Instr.makeFunc, Sem.run_pure, ren, renA]
  · rename_i t ho
    cases hb : Nat.blt (nx + 1) capB with
    | false => rw [hb] at hs; cases hs
    | true =>
      rw [hb, cond_true] at hs
      cases hs
      simp only [ho, Option.map_none]
      exact holds_made (makeMapS_sound D hb t)
  · rename_i t m k v ho
    split at hs
    case h_2 => cases hs
    rename_i x y z hx hy hz
    split at hs <;> cases hs
    rename_i h' hw
    obtain ⟨e1, e2⟩ := E _ (by rw [ho]; simp [Op.operands]) _ hx
    obtain ⟨e3, e4⟩ := E _ (by rw [ho]; simp [Op.operands]) _ hy
    obtain ⟨e5, e6⟩ := E _ (by rw [ho]; simp [Op.operands]) _ hz
    simp only [ho, e1, e3, e5]
    exact holds_wrote (mapUpdateS_sound D e4 e6 hw)
  · rename_i t m k v ho
    split at hs
    case h_2 => cases hs
    rename_i x y z hx hy hz
    split at hs <;> cases hs
    rename_i h' hw
    obtain ⟨e1, e2⟩ := E _ (by rw [ho]; simp [Op.operands]) _ hx
    obtain ⟨e3, e4⟩ := E _ (by rw [ho]; simp [Op.operands]) _ hy
    obtain ⟨e5, e6⟩ := E _ (by rw [ho]; simp [Op.operands]) _ hz
    simp only [ho, e1, e3, e5]
    exact holds_wrote (mapUpdateS_sound D e4 e6 hw)
  · rename_i t x lo hi ho
    split at hs
    case h_2 => cases hs
    rename_i v hv
    obtain ⟨e1, e2⟩ := E _ (by rw [ho]; simp [Op.operands]) _ hv
    simp only [ho, e1, Option.map_none]
    split at hs
    · split at hs
      · split at hs <;> cases hs
        rename_i u hu
        exact holds_pure D (sliceS_sound D e2 hu)
      · split at hs
        case h_2 => cases hs
        rename_i b' b hb
        split at hs <;> cases hs
        rename_i u hu
        obtain ⟨e3, e4⟩ := E _ (by rw [ho]; simp [Op.operands]) _ hb
        simp only [Option.map_some, Option.map_none, e3]
        exact holds_pure D (sliceS_sound D e2 hu)
    · split at hs
      case h_2 => cases hs
      rename_i c' c hc
      obtain ⟨e5, e6⟩ := E _ (by rw [ho]; simp [Op.operands]) _ hc
      split at hs
      · split at hs <;> cases hs
        rename_i u hu
        simp only [Option.map_some, Option.map_none, e5]
        exact holds_pure D (sliceS_sound D e2 hu)
      · split at hs
        case h_2 => cases hs
        rename_i b' b hb
        split at hs <;> cases hs
        rename_i u hu
        obtain ⟨e3, e4⟩ := E _ (by rw [ho]; simp [Op.operands]) _ hb
        simp only [Option.map_some, e3, e5]
        exact holds_pure D (sliceS_sound D e2 hu)
  · rename_i t x f ho
    split at hs
    case h_2 => cases hs
    rename_i v hv
    split at hs <;> cases hs
    rename_i u hu
    obtain ⟨e1, e2⟩ := E _ (by rw [ho]; simp [Op.operands]) _ hv
    simp only [ho, e1]
    exact holds_pure D (fieldAddrS_sound e2 hu w)
  · rename_i t x f ho
    split at hs
    case h_2 => cases hs
    rename_i v hv
    split at hs <;> cases hs
    rename_i u hu
    obtain ⟨e1, e2⟩ := E _ (by rw [ho]; simp [Op.operands]) _ hv
    simp only [ho, e1]
    exact holds_pure D (fieldS_sound e2 hu w)
  · rename_i t x i ho
    split at hs
    case h_2 => cases hs
    rename_i v u hv hu
    split at hs <;> cases hs
    rename_i z hz
    obtain ⟨e1, e2⟩ := E _ (by rw [ho]; simp [Op.operands]) _ hv
    obtain ⟨e3, e4⟩ := E _ (by rw [ho]; simp [Op.operands]) _ hu
    simp only [ho, e1, e3]
    exact holds_pure D (indexAddrS_sound e2 hz w)
  · rename_i t x i ho
    split at hs
    case h_2 => cases hs
    rename_i v u hv hu
    split at hs <;> cases hs
    rename_i z hz
    obtain ⟨e1, e2⟩ := E _ (by rw [ho]; simp [Op.operands]) _ hv
    obtain ⟨e3, e4⟩ := E _ (by rw [ho]; simp [Op.operands]) _ hu
    simp only [ho, e1, e3]
    exact holds_pure D (indexS_sound e2 hz w)
  · rename_i t x i ok ho
    split at hs
    case h_2 => cases hs
    rename_i v u hv hu
    split at hs <;> cases hs
    rename_i z hz
    obtain ⟨e1, e2⟩ := E _ (by rw [ho]; simp [Op.operands]) _ hv
    obtain ⟨e3, e4⟩ := E _ (by rw [ho]; simp [Op.operands]) _ hu
    simp only [ho, e1, e3]
    exact holds_pure D (lookupS_sound D hz)
  · rename_i x i ho
    split at hs
    case h_2 => cases hs
    rename_i v hv
    split at hs <;> cases hs
    rename_i u hu
    obtain ⟨e1, e2⟩ := E _ (by rw [ho]; simp [Op.operands]) _ hv
    simp only [ho, e1]
    exact holds_pure D (extractS_sound e2 hu w)
  · rename_i c ho
    simp only [ho]
    split at hs
    · rename_i x hcal
      split at hs
      case h_2 => cases hs
      rename_i f first captured hx
      split at hs
      case h_2 => cases hs
      rename_i l hl
      obtain ⟨e1, e2⟩ := E _ (by rw [ho]; simp [Op.operands, Call.operands, hcal]) _ hx
      obtain ⟨e3, e4⟩ := evL_on (fun x hx2 v => E x (by rw [ho]; simp only [Op.operands, Call.operands]; rw [← Array.mem_toList_iff, Array.toList_append]; exact List.mem_append_right _ hx2) v) hl
      simp only [Lt, LtA_iff] at e2
      have hargs := args_ren (xs := c.args) e3
      simp only [resolve, hcal, e1, ren, Deferred.ofValue, Sem.run_bind, Sem.run_pure, Result.andThen_ok, invoke]
      refine goesS_sound hng (((LtL_iff nx _).2 e2.1).app e4 |>.app ((LtL_iff nx _).2 e2.2)) hs ?_
      rw [← Array.toList_inj, hargs]
      simp only [Array.toList_append, toList_ren, renL_app]
    · rename_i x name hcal
      split at hs
      case h_2 => cases hs
      rename_i t v hx
      split at hs
      case h_2 => cases hs
      rename_i f rc hm
      split at hs
      case h_2 => cases hs
      rename_i l hl
      obtain ⟨e1, e2⟩ := E _ (by rw [ho]; simp [Op.operands, Call.operands, hcal]) _ hx
      obtain ⟨e3, e4⟩ := evL_on (fun x hx2 v => E x (by rw [ho]; simp only [Op.operands, Call.operands]; rw [← Array.mem_toList_iff, Array.toList_append]; exact List.mem_append_right _ hx2) v) hl
      simp only [Lt] at e2
      have hargs := args_ren (xs := c.args) e3
      have hd0 : 0 < Made.depth := by decide
      obtain ⟨n, hn⟩ : ∃ n, P.types.size + Made.depth = n + 1 := ⟨P.types.size + Made.depth - 1, by omega⟩
      obtain ⟨m1, rfl⟩ := methodS_sound (r := r) hm n w
      have hx0 : (#[ren r (.iface t rc)] ++ c.args.map a.eval)[0]? = some (ren r (.iface t rc)) := by rw [hargs]; exact app_head _ _
      have hx1 : (#[ren r (.iface t rc)] ++ c.args.map a.eval).extract 1 (#[ren r (.iface t rc)] ++ c.args.map a.eval).size = (renL r l).toArray := by
        rw [hargs, app_cons]
        apply Array.ext'
        simp
      have hxs : (#[ren r rc] ++ (renL r l).toArray : Array Value) = (renL r (rc :: l)).toArray := by
        apply Array.ext'
        simp [renL]
      have hg : s.Holds G w0 r nx w ((callFunc f (#[ren r rc] ++ (renL r l).toArray)).run P w) := goesS_sound hng (by simp only [LtL]; exact ⟨e2, e4⟩) hs hxs
      simp only [resolve, hcal, e1, Sem.run_bind, Sem.run_pure, Result.andThen_ok, invoke, hx0, hx1]
      simp only [callMethod, ren, program, Sem.run, Sem.run_bind, Result.andThen_ok, hn, m1]
      exact hg
    · rename_i b hcal
      split at hs
      · split at hs
        case h_2 => cases hs
        rename_i x hx
        split at hs
        case h_2 => cases hs
        rename_i v hv
        split at hs
        case h_2 => cases hs
        rename_i t ht
        split at hs <;> cases hs
        rename_i u hu
        obtain ⟨e1, e2⟩ := E _ (by rw [ho]; simp only [Op.operands, Call.operands]; rw [← Array.mem_toList_iff, Array.toList_append]; exact List.mem_append_right _ (by rw [hx]; simp)) _ hv
        have ha : c.args.map a.eval = #[ren r v] := by rw [← Array.toList_inj, Array.toList_map, hx]; simp [e1]
        have hat : c.argTypes = #[t] := by rw [← Array.toList_inj]; exact ht
        simp only [resolve, hcal, Sem.run_bind, Sem.run_pure, Result.andThen_ok, invoke, ha, hat]
        exact holds_pure D (lenS_sound D hu)
      · split at hs
        case h_2 => cases hs
        rename_i x y hx
        split at hs
        case h_2 => cases hs
        rename_i v u hv hu
        split at hs <;> cases hs
        rename_i z h' n hz
        obtain ⟨e1, e2⟩ := E _ (by rw [ho]; simp only [Op.operands, Call.operands]; rw [← Array.mem_toList_iff, Array.toList_append]; exact List.mem_append_right _ (by rw [hx]; simp)) _ hv
        obtain ⟨e3, e4⟩ := E _ (by rw [ho]; simp only [Op.operands, Call.operands]; rw [← Array.mem_toList_iff, Array.toList_append]; exact List.mem_append_right _ (by rw [hx]; simp)) _ hu
        have ha : c.args.map a.eval = #[ren r v, ren r u] := by rw [← Array.toList_inj, Array.toList_map, hx]; simp [e1, e3]
        simp only [resolve, hcal, Sem.run_bind, Sem.run_pure, Result.andThen_ok, invoke, ha]
        exact holds_made (appendS_sound D e2 hz)
      · cases hs
  · cases hs
end Go.Rn
/-
  A symbolic world: regions in the text's order. Condition: no function of the program is runtime.NumGoroutine.
-/
namespace Go.Rn
open Go.RowKit Go.MapKept
set_option linter.unusedVariables false
set_option linter.unusedSimpArgs false
variable {P : Program} {G : Nat} {w0 : World} {r : Ren} {h : Tr SObj} {nx : Nat} {w : World} {T : Tr Value} {a : Act}
/-- How functions are called: what comes back, and the world behind it. -/
abbrev CallS := FuncId → List Value → Tr SObj → Nat → Option (Value × Tr SObj × Nat)
/-- What comes back is so. -/
def Back (G : Nat) (w0 : World) (r : Ren) (nx : Nat) (v : Value) (h' : Tr SObj) (nx' : Nat) (e : Ending) (w' : World) : Prop := ∃ r', e = .returned (ren r' v) ∧ Agree nx r r' ∧ nx ≤ nx' ∧ Lt nx' v ∧ Den G w0 r' h' nx' w'
def CallOk (P : Program) (G : Nat) (w0 : World) (call : CallS) : Prop := ∀ (f : FuncId) (args : List Value) (h : Tr SObj) (nx : Nat) (v : Value) (h' : Tr SObj) (nx' : Nat) (r : Ren) (w : World), call f args h nx = some (v, h', nx') → Den G w0 r h nx w → LtL nx args → Calls P f (renL r args).toArray w (Back G w0 r nx v h' nx')
/-- A frame of N values. -/
structure Frm (G : Nat) (N : Nat) (r : Ren) (nx : Nat) (T : Tr Value) (a : Act) : Prop where
  fit : Fits G r nx T a
  size : a.tmps.size = N
  defers : a.defers = []
noncomputable def putS (N : Nat) (T : Tr Value) (d : Option Tmp) (v : Value) : Option (Tr Value) :=
  match d with
  | none => some T
  | some d => cond (Nat.blt d N) (some (T.set d v)) none
theorem Fits.go {r' : Ren} {nx' : Nat} (F : Fits G r nx T a) (ha : Agree nx r r') (hn : nx ≤ nx') : Fits G r' nx' T a := by
  refine ⟨fun t => ?_, fun t v hv => (F.lt t v hv).mono hn⟩
  rw [F.val t]
  cases hv : T.get t with
  | none => rw [Option.getD_none, undef_ren, undef_ren]
  | some v => exact Lt.same ha (F.lt t v hv)
theorem putS_sound {N : Nat} (hN : N ≤ capB) {T' : Tr Value} {d : Option Tmp} {v : Value} (F : Frm G N r nx T a) (hv : Lt nx v) (hs : putS N T d v = some T') : Frm G N r nx T' (a.put d (ren r v)) := by
  unfold putS at hs
  split at hs
  · cases hs; exact F
  · rename_i d
    cases hb : Nat.blt d N with
    | false => rw [hb] at hs; cases hs
    | true =>
      rw [hb, cond_true] at hs
      cases hs
      have hd := blt_lt hb
      have hg : ∀ t, (T.set d v).get t = if d = t then some v else T.get t := fun t => Tr.get_set (Nat.lt_of_lt_of_le hd hN)
      refine ⟨⟨fun t => ?_, fun t u hu => ?_⟩, by simp [Act.put, F.size], F.defers⟩
      · rw [hg]
        show (a.tmps.setIfInBounds d (ren r v)).getD t undef = _
        by_cases e : d = t
        · subst e
          rw [if_pos rfl, Option.getD_some, Array.getD_eq_getD_getElem?, Array.getElem?_setIfInBounds_self, if_pos (by rw [F.size]; exact hd)]; rfl
        · rw [if_neg e, ← F.fit.val t, Array.getD_eq_getD_getElem?, Array.getD_eq_getD_getElem?, Array.getElem?_setIfInBounds_ne e]
      · rw [hg] at hu
        split at hu
        · cases hu; exact hv
        · exact F.fit.lt t u hu
/-- Is the operation carried out? -/
noncomputable def wantS (ops : List Oper) (T : Tr Value) (o : Oper) : Option Bool :=
  match o.guard with
  | none => some true
  | some (j, want) => match nth ops j with
    | some oj => match oj.dst with
      | some d => match T.get d with
        | some (.bool b) => some (cond b want (!want))
        | _ => none
      | none => none
    | none => none
theorem wantS_sound {ops : Array Oper} {o : Oper} {b : Bool} (F : Fits G r nx T a) (hs : wantS ops.toList T o = some b) : Region.wanted o (yielded ops a.tmps) = b := by
  unfold wantS at hs
  unfold Region.wanted
  split at hs
  · rename_i hg
    cases hs
    rw [hg]
  · rename_i j want hg
    split at hs
    case h_2 => cases hs
    rename_i oj hoj
    split at hs
    case h_2 => cases hs
    rename_i d hd
    split at hs
    case h_2 => cases hs
    rename_i c hc
    cases hs
    rw [nth_eq, Array.getElem?_toList] at hoj
    have hv := F.val d
    rw [hc] at hv
    simp only [Option.getD_some, ren] at hv
    have ht : a.tmps[d]? = some (.bool c) := by
      rw [Array.getD_eq_getD_getElem?] at hv
      cases hx : a.tmps[d]? with
      | none => rw [hx] at hv; simp [undef, noResult] at hv
      | some x => rw [hx] at hv; rw [← hv]; rfl
    have hy : yielded ops a.tmps j = some c := by
      unfold yielded
      simp only [hoj, Option.bind_some, hd, ht]
    simp only [hg, hy]
    cases c <;> cases want <;> rfl
/-- What an operation gives. -/
noncomputable def valS (P : Program) (G : Nat) (call : CallS) (T : Tr Value) (h : Tr SObj) (nx : Nat) (o : Oper) : Option (Value × Tr SObj × Nat) :=
  match opS P G T h nx o with
  | some (.val v h' nx') => some (v, h', nx')
  | some (.call f args) => call f args h nx
  | none => none
theorem valS_sound {call : CallS} (hng : NoNG P) (hcall : CallOk P G w0 call) (D : Den G w0 r h nx w) {o : Oper} (E : ∀ x, x ∈ o.op.operands → ∀ v, evS G T x = some v → a.eval x = ren r v ∧ Lt nx v) {v : Value} {h' : Tr SObj} {nx' : Nat} (hs : valS P G call T h nx o = some (v, h', nx')) {K : Act → World → Prop} {Q : Exit → Act → World → Prop}
    (hK : ∀ r' w', Agree nx r r' → nx ≤ nx' → Lt nx' v → Den G w0 r' h' nx' w' → K (a.put o.dst (ren r' v)) w') : o.wp P a w K Q := by
  unfold valS at hs
  unfold Oper.wp
  split at hs
  · rename_i v1 h1 n1 ho
    cases hs
    obtain ⟨r', w', hr, e1, e2, e3, e4⟩ := opS_sound hng D E ho
    rcases hr with hr | ⟨hr, rfl⟩
    · rw [hr]; exact hK r' w' e1 e2 e3 e4
    · rw [hr]
      have := hK r' w' e1 e2 e3 e4
      rwa [undef_ren] at this
  · rename_i f args ho
    obtain ⟨hr, hl⟩ := opS_sound hng D E ho
    rw [hr]
    refine (hcall f args h nx v h' nx' r w hs D hl).mono ?_
    rintro e w' ⟨r', rfl, e1, e2, e3, e4⟩
    exact hK r' w' e1 e2 e3 e4
  · cases hs
/-- A region in the text's order. -/
noncomputable def runL (P : Program) (G : Nat) (call : CallS) (N : Nat) (ops : List Oper) (L : List Oper) : Tr Value → Tr SObj → Nat → Option (Tr Value × Tr SObj × Nat) :=
  List.rec (motive := fun _ => Tr Value → Tr SObj → Nat → Option (Tr Value × Tr SObj × Nat)) (fun T h nx => some (T, h, nx))
    (fun o _ ih T h nx => match wantS ops T o with
      | some true => match valS P G call T h nx o with
        | some (v, h', nx') => match putS N T o.dst v with
          | some T' => ih T' h' nx'
          | none => none
        | none => none
      | some false => match putS N T o.dst undef with
        | some T' => ih T' h nx
        | none => none
      | none => none) L
theorem runL_cons (call : CallS) (N : Nat) (ops : List Oper) (o : Oper) (L : List Oper) (T : Tr Value) (h : Tr SObj) (nx : Nat) : runL P G call N ops (o :: L) T h nx = match wantS ops T o with
      | some true => match valS P G call T h nx o with
        | some (v, h', nx') => match putS N T o.dst v with
          | some T' => runL P G call N ops L T' h' nx'
          | none => none
        | none => none
      | some false => match putS N T o.dst undef with
        | some T' => runL P G call N ops L T' h nx
        | none => none
      | none => none := rfl
theorem runL_sound {call : CallS} (hng : NoNG P) (hcall : CallOk P G w0 call) {N : Nat} (hN : N ≤ capB) {ops : Array Oper} {Q : Exit → Act → World → Prop} : ∀ (L : List Oper) (T : Tr Value) (h : Tr SObj) (nx : Nat) (r : Ren) (a : Act) (w : World) (T' : Tr Value) (h' : Tr SObj) (nx' : Nat),
    runL P G call N ops.toList L T h nx = some (T', h', nx') → Den G w0 r h nx w → Frm G N r nx T a → (∀ r' a' w', Agree nx r r' → nx ≤ nx' → Den G w0 r' h' nx' w' → Frm G N r' nx' T' a' → Q .normal a' w') → wpList P ops Q L a w
  | [], T, h, nx, r, a, w, T', h', nx', hs, D, F, hQ => by
    have e : (T, h, nx) = (T', h', nx') := Option.some.inj hs
    cases e
    exact hQ r a w (Agree.refl _ _) (Nat.le_refl _) D F
  | o :: L, T, h, nx, r, a, w, T', h', nx', hs, D, F, hQ => by
    rw [runL_cons] at hs
    unfold wpList
    split at hs
    · rename_i hw
      rw [wantS_sound F.fit hw, if_pos rfl]
      split at hs
      case h_2 => cases hs
      rename_i v h1 n1 hv
      split at hs
      case h_2 => cases hs
      rename_i T1 hT
      refine .inl (valS_sound hng hcall D (fun x _ v hv => evS_sound D F.fit hv) hv fun r1 w1 e1 e2 e3 e4 => ?_)
      have F1 : Frm G N r1 n1 T a := ⟨F.fit.go e1 e2, F.size, F.defers⟩
      exact runL_sound hng hcall hN L T1 h1 n1 r1 _ w1 T' h' nx' hs e4 (putS_sound hN F1 e3 hT) fun r2 a2 w2 q1 q2 q3 q4 => hQ r2 a2 w2 (e1.trans e2 q1) (Nat.le_trans e2 q2) q3 q4
    · rename_i hw
      rw [wantS_sound F.fit hw, if_neg (by decide)]
      split at hs
      case h_2 => cases hs
      rename_i T1 hT
      have F1 := putS_sound hN F (undef_lt nx) hT
      rw [undef_ren] at F1
      exact runL_sound hng hcall hN L T1 h nx r _ w T' h' nx' hs D F1 hQ
    · cases hs
end Go.Rn
/-
  A symbolic world: regions that draw their order. Condition: no function of the program is runtime.NumGoroutine.
-/
namespace Go.Rn
open Go.RowKit Go.MapKept
set_option linter.unusedVariables false
set_option linter.unusedSimpArgs false
variable {P : Program} {G : Nat} {w0 : World} {r : Ren} {h : Tr SObj} {nx : Nat} {w : World} {T : Tr Value} {a : Act}
/-! ### are two values one? -/
mutual
def veq : Value → Value → Bool
  | .bool a, .bool b => a == b
  | .int k a, .int k' b => decide (k = k') && decide (a = b)
  | .string a, .string b => decide (a.data.toList = b.data.toList)
  | .pointer none, .pointer none => true
  | .pointer (some a), .pointer (some b) => decide (a = b)
  | .slice a n c, .slice b m d => decide (a = b) && Nat.beq n m && Nat.beq c d
  | .map a, .map b => decide (a = b)
  | .func f x y, .func g u v => decide (f = g) && veqA x u && veqA y v
  | .nilFunc, .nilFunc => true
  | .iface t v, .iface u x => Nat.beq t u && veq v x
  | .nilIface, .nilIface => true
  | .agg x, .agg y => veqA x y
  | .tuple x, .tuple y => veqA x y
  | _, _ => false
def veqA : Array Value → Array Value → Bool
  | ⟨l⟩, ⟨m⟩ => veqL l m
def veqL : List Value → List Value → Bool
  | [], [] => true
  | x :: l, y :: m => veq x y && veqL l m
  | _, _ => false
end
mutual
theorem veq_eq : ∀ {x y : Value}, veq x y = true → x = y
  | .bool a, y, h => by cases y <;> simp_all [veq]
  | .int k a, y, h => by cases y <;> simp_all [veq]
  | .string a, y, h => by
    cases y <;> simp [veq] at h
    rename_i b
    have : a = b := ByteArray.ext h
    rw [this]
  | .pointer none, y, h => by
    cases y <;> first | (simp [veq] at h; done) | (rename_i b; cases b <;> simp_all [veq])
  | .pointer (some a), y, h => by
    cases y <;> first | (simp [veq] at h; done) | (rename_i b; cases b <;> simp_all [veq])
  | .slice a n c, y, h => by cases y <;> simp_all [veq]
  | .map a, y, h => by cases y <;> simp_all [veq]
  | .func f x y, z, h => by
    cases z <;> simp [veq] at h
    obtain ⟨⟨h1, h2⟩, h3⟩ := h
    rw [h1, veqA_eq h2, veqA_eq h3]
  | .nilFunc, y, h => by cases y <;> simp_all [veq]
  | .iface t v, y, h => by
    cases y <;> simp [veq] at h
    rw [h.1, veq_eq h.2]
  | .nilIface, y, h => by cases y <;> simp_all [veq]
  | .agg x, y, h => by
    cases y <;> simp [veq] at h
    rw [veqA_eq h]
  | .tuple x, y, h => by
    cases y <;> simp [veq] at h
    rw [veqA_eq h]
  | .float _ _, y, h => by cases y <;> simp [veq] at h
  | .complex _ _ _, y, h => by cases y <;> simp [veq] at h
  | .chan _, y, h => by cases y <;> simp [veq] at h
theorem veqA_eq : ∀ {x y : Array Value}, veqA x y = true → x = y
  | ⟨l⟩, ⟨m⟩, h => by
    simp only [veqA] at h
    rw [veqL_eq h]
theorem veqL_eq : ∀ {x y : List Value}, veqL x y = true → x = y
  | [], [], h => rfl
  | x :: l, y :: m, h => by
    simp only [veqL, Bool.and_eq_true] at h
    rw [veq_eq h.1, veqL_eq h.2]
  | [], _ :: _, h => by simp [veqL] at h
  | _ :: _, [], h => by simp [veqL] at h
end
/-- What lies in a slot. -/
noncomputable def slot (T : Tr Value) (t : Tmp) : Value := match T.get t with
  | some v => v
  | none => undef
/-! ### the text's order, kept -/
structure Rec where
  T : Tr Value
  want : Bool
  acts : Bool
  v : Value
/-- May it act on the memory? -/
noncomputable def actK : Op → Bool
  | .alloc _ => true
  | .box _ _ => true
  | .buildSlice _ _ _ => true
  | .store _ _ _ => true
  | .makeMap _ _ => true
  | .insert _ _ _ _ => true
  | .mapUpdate _ _ _ _ => true
  | .call c => match c.callee with
    | .builtin .len => false
    | _ => true
  | _ => false
/-- One step: does it run; what it gives. -/
noncomputable def recS (P : Program) (G : Nat) (call : CallS) (ops : List Oper) (T : Tr Value) (h : Tr SObj) (nx : Nat) (o : Oper) : Option (Rec × Tr SObj × Nat) :=
  match wantS ops T o with
  | some true => match valS P G call T h nx o with
    | some (v, h', nx') => some (⟨T, true, actK o.op, v⟩, h', nx')
    | none => none
  | some false => some (⟨T, false, actK o.op, undef⟩, h, nx)
  | none => none
/-- All steps: their records; the worlds ahead of and behind each that acts; the last frame. -/
noncomputable def runD (P : Program) (G : Nat) (call : CallS) (N : Nat) (ops : List Oper) (L : List Oper) : Tr Value → Tr SObj → Nat → Option (List Rec × List (Tr SObj × Nat) × Tr Value) :=
  List.rec (motive := fun _ => Tr Value → Tr SObj → Nat → Option (List Rec × List (Tr SObj × Nat) × Tr Value)) (fun T h nx => some ([], [(h, nx)], T))
    (fun o _ ih T h nx => match recS P G call ops T h nx o with
      | some (q, h', nx') => match putS N T o.dst q.v with
        | some T' => match ih T' h' nx' with
          | some (Q, S, Te) => some (q :: Q, cond q.acts ((h, nx) :: S) S, Te)
          | none => none
        | none => none
      | none => none) L
theorem runD_cons (call : CallS) (N : Nat) (ops : List Oper) (o : Oper) (L : List Oper) (T : Tr Value) (h : Tr SObj) (nx : Nat) : runD P G call N ops (o :: L) T h nx = match recS P G call ops T h nx o with
      | some (q, h', nx') => match putS N T o.dst q.v with
        | some T' => match runD P G call N ops L T' h' nx' with
          | some (Q, S, Te) => some (q :: Q, cond q.acts ((h, nx) :: S) S, Te)
          | none => none
        | none => none
      | none => none := rfl
/-- How many of the first i act. -/
def cnt (Q : List Rec) (i : Nat) : Nat := ((Q.take i).filter (·.acts)).length
/-- The quiet operations leave the symbolic world alone. -/
theorem opS_quiet {o : Oper} (hq : actK o.op = false) {s : SR} (hs : opS P G T h nx o = some s) : ∃ v, s = .val v h nx := by
  unfold opS at hs
  simp only at hs
  split at hs
  all_goals first
    | (rename_i ho; rw [ho] at hq; simp [actK] at hq; done)
    | ((repeat' split at hs) <;> first | (cases hs; exact ⟨_, rfl⟩) | (cases hs; done) | (exfalso; simp_all [actK]; done) | skip)
end Go.Rn
/-
  A symbolic world: a run in the text's order, its records. No condition.
-/
namespace Go.Rn
open Go.RowKit Go.MapKept
set_option linter.unusedVariables false
set_option linter.unusedSimpArgs false
variable {P : Program} {G : Nat} {w0 : World} {r : Ren} {h : Tr SObj} {nx : Nat} {w : World} {T : Tr Value} {a : Act} {call : CallS} {N : Nat} {ops : List Oper}
theorem cnt_zero (Q : List Rec) : cnt Q 0 = 0 := by simp [cnt]
theorem cnt_cons (q : Rec) (Q : List Rec) (i : Nat) : cnt (q :: Q) (i + 1) = (cond q.acts 1 0) + cnt Q i := by
  unfold cnt
  rw [List.take_succ_cons]
  cases hq : q.acts
  · simp [hq]
  · simp [hq]; omega
theorem slot_put (hN : N ≤ capB) {T' : Tr Value} {d : Option Tmp} {v : Value} (hs : putS N T d v = some T') (t : Tmp) : slot T' t = if d = some t then v else slot T t := by
  unfold putS at hs
  split at hs
  · cases hs; simp
  · rename_i d
    cases hb : Nat.blt d N with
    | false => rw [hb] at hs; cases hs
    | true =>
      rw [hb, cond_true] at hs
      cases hs
      unfold slot
      rw [Tr.get_set (Nat.lt_of_lt_of_le (blt_lt hb) hN)]
      by_cases e : d = t
      · simp [e]
      · simp [e]
theorem recS_acts {o : Oper} {q : Rec} {h' : Tr SObj} {nx' : Nat} (hs : recS P G call ops T h nx o = some (q, h', nx')) : q.T = T ∧ q.acts = actK o.op ∧ (q.acts = false → h' = h ∧ nx' = nx) ∧ (q.want = false → h' = h ∧ nx' = nx ∧ q.v = undef) ∧ wantS ops T o = some q.want ∧ (q.want = true → valS P G call T h nx o = some (q.v, h', nx')) := by
  unfold recS at hs
  split at hs
  · rename_i hw
    split at hs
    case h_2 => cases hs
    rename_i v h1 n1 hv
    cases hs
    refine ⟨rfl, rfl, fun hq => ?_, fun hq => (by cases hq), hw, fun _ => hv⟩
    unfold valS at hv
    split at hv
    · rename_i ho
      obtain ⟨v', e⟩ := opS_quiet hq ho
      cases e; cases hv
      exact ⟨rfl, rfl⟩
    · rename_i ho
      obtain ⟨v', e⟩ := opS_quiet hq ho
      cases e
    · cases hv
  · rename_i hw
    cases hs
    exact ⟨rfl, rfl, fun _ => ⟨rfl, rfl⟩, fun _ => ⟨rfl, rfl, rfl⟩, hw, fun hq => (by cases hq)⟩
  · cases hs
theorem runD_step {o : Oper} {L : List Oper} {Q : List Rec} {S : List (Tr SObj × Nat)} {Te : Tr Value} (hs : runD P G call N ops (o :: L) T h nx = some (Q, S, Te)) : ∃ q h' nx' T' Q' S', recS P G call ops T h nx o = some (q, h', nx') ∧ putS N T o.dst q.v = some T' ∧ runD P G call N ops L T' h' nx' = some (Q', S', Te) ∧ Q = q :: Q' ∧ S = cond q.acts ((h, nx) :: S') S' := by
  rw [runD_cons] at hs
  split at hs
  case h_2 => cases hs
  rename_i q h' nx' hr
  split at hs
  case h_2 => cases hs
  rename_i T' hT
  split at hs
  case h_2 => cases hs
  rename_i Q' S' Te' hrest
  cases hs
  exact ⟨q, h', nx', T', Q', S', hr, hT, hrest, rfl, rfl⟩
theorem runD_head : ∀ {L : List Oper} {T : Tr Value} {h : Tr SObj} {nx : Nat} {Q : List Rec} {S : List (Tr SObj × Nat)} {Te : Tr Value}, runD P G call N ops L T h nx = some (Q, S, Te) → S[0]? = some (h, nx) ∧ Q.length = L.length ∧ S.length = (Q.filter (·.acts)).length + 1
  | [], T, h, nx, Q, S, Te, hs => by
    have e : ([], [(h, nx)], T) = (Q, S, Te) := Option.some.inj hs
    cases e; simp
  | o :: L, T, h, nx, Q, S, Te, hs => by
    obtain ⟨q, h', nx', T', Q', S', h1, h2, h3, rfl, rfl⟩ := runD_step hs
    obtain ⟨e1, e2, e3⟩ := runD_head h3
    cases hq : q.acts with
    | true => simp [e2, e3, hq]
    | false =>
      obtain ⟨rfl, rfl⟩ := (recS_acts h1).2.2.1 hq
      simp only [cond_false]
      exact ⟨e1, by simp [e2], by simp [e3, hq]⟩
theorem runD_at (hN : N ≤ capB) : ∀ {L : List Oper} {T : Tr Value} {h : Tr SObj} {nx : Nat} {Q : List Rec} {S : List (Tr SObj × Nat)} {Te : Tr Value}, runD P G call N ops L T h nx = some (Q, S, Te) → ∀ (i : Nat) (o : Oper) (q : Rec), L[i]? = some o → Q[i]? = some q → ∃ hi ni hi' ni', S[cnt Q i]? = some (hi, ni) ∧ recS P G call ops q.T hi ni o = some (q, hi', ni') ∧ S[cnt Q (i + 1)]? = some (hi', ni')
  | [], T, h, nx, Q, S, Te, hs, i, o, q, hi, hq => by simp at hi
  | o' :: L, T, h, nx, Q, S, Te, hs, i, o, q, hi, hq => by
    obtain ⟨q', h', nx', T', Q', S', h1, h2, h3, rfl, rfl⟩ := runD_step hs
    have hT := (recS_acts h1).1
    cases i with
    | zero =>
      simp only [List.getElem?_cons_zero, Option.some.injEq] at hi hq
      subst hi hq
      have e1 := (runD_head h3).1
      refine ⟨h, nx, h', nx', ?_, by rw [hT]; exact h1, ?_⟩
      · rw [cnt_zero]
        cases hq : q'.acts with
        | true => rfl
        | false =>
          obtain ⟨rfl, rfl⟩ := (recS_acts h1).2.2.1 hq
          exact e1
      · rw [cnt_cons, cnt_zero]
        cases hq : q'.acts with
        | true => exact e1
        | false => exact e1
    | succ i =>
      rw [List.getElem?_cons_succ] at hi hq
      obtain ⟨a1, a2, a3, a4, b1, b2, b3⟩ := runD_at hN h3 i o q hi hq
      refine ⟨a1, a2, a3, a4, ?_, b2, ?_⟩
      · rw [cnt_cons]
        cases hq : q'.acts with
        | true => simp only [cond_true]; rw [Nat.add_comm, List.getElem?_cons_succ]; exact b1
        | false => simp only [cond_false, Nat.zero_add]; exact b1
      · rw [cnt_cons]
        cases hq : q'.acts with
        | true => simp only [cond_true]; rw [Nat.add_comm, List.getElem?_cons_succ]; exact b3
        | false => simp only [cond_false, Nat.zero_add]; exact b3
/-- What lies in a slot ahead of operation i (behind all: i = the number of operations). -/
theorem runD_slot (hN : N ≤ capB) : ∀ {L : List Oper} {T : Tr Value} {h : Tr SObj} {nx : Nat} {Q : List Rec} {S : List (Tr SObj × Nat)} {Te : Tr Value}, runD P G call N ops L T h nx = some (Q, S, Te) → ∀ t : Tmp, (∀ (i : Nat) (q : Rec), Q[i]? = some q →
      ((∀ (j : Nat) (o : Oper), j < i → L[j]? = some o → o.dst ≠ some t) → slot q.T t = slot T t) ∧
      (∀ (j : Nat) (o : Oper) (p : Rec), j < i → L[j]? = some o → Q[j]? = some p → o.dst = some t → (∀ (k : Nat) (o' : Oper), j < k → L[k]? = some o' → o'.dst ≠ some t) → slot q.T t = p.v)) ∧
    ((∀ o : Oper, o ∈ L → o.dst ≠ some t) → slot Te t = slot T t) ∧ (∀ (j : Nat) (o : Oper) (p : Rec), L[j]? = some o → Q[j]? = some p → o.dst = some t → (∀ (k : Nat) (o' : Oper), j < k → L[k]? = some o' → o'.dst ≠ some t) → slot Te t = p.v)
  | [], T, h, nx, Q, S, Te, hs, t => by
    have e : ([], [(h, nx)], T) = (Q, S, Te) := Option.some.inj hs
    cases e
    exact ⟨fun i q hq => by simp at hq, fun _ => rfl, fun j o p ho => by simp at ho⟩
  | o' :: L, T, h, nx, Q, S, Te, hs, t => by
    obtain ⟨q', h', nx', T', Q', S', h1, h2, h3, rfl, rfl⟩ := runD_step hs
    have hT := (recS_acts h1).1
    have hp := slot_put hN h2 t
    obtain ⟨c1, c2, c3⟩ := runD_slot hN h3 t
    refine ⟨fun i q hq => ?_, fun hno => ?_, fun j o p ho hpj hd hlast => ?_⟩
    · cases i with
      | zero =>
        simp only [List.getElem?_cons_zero, Option.some.injEq] at hq
        subst hq
        exact ⟨fun _ => by rw [hT], fun j o p hj => by omega⟩
      | succ i =>
        rw [List.getElem?_cons_succ] at hq
        obtain ⟨d1, d2⟩ := c1 i q hq
        refine ⟨fun hno => ?_, fun j o p hj ho hpj hd hlast => ?_⟩
        · rw [d1 fun j o hj ho => hno (j + 1) o (by omega) (by rw [List.getElem?_cons_succ]; exact ho), hp, if_neg (hno 0 o' (by omega) rfl)]
        · cases j with
          | zero =>
            simp only [List.getElem?_cons_zero, Option.some.injEq] at ho hpj
            subst ho hpj
            rw [d1 fun j o hj ho => hlast (j + 1) o (by omega) (by rw [List.getElem?_cons_succ]; exact ho), hp, if_pos hd]
          | succ j =>
            rw [List.getElem?_cons_succ] at ho hpj
            exact d2 j o p (by omega) ho hpj hd fun k o2 hk ho2 => hlast (k + 1) o2 (by omega) (by rw [List.getElem?_cons_succ]; exact ho2)
    · rw [c2 fun o ho => hno o (by simp [ho]), hp, if_neg (hno o' (by simp))]
    · cases j with
      | zero =>
        simp only [List.getElem?_cons_zero, Option.some.injEq] at ho hpj
        subst ho hpj
        rw [c2 fun o ho => by
          obtain ⟨k, hk⟩ := List.getElem?_of_mem ho
          exact hlast (k + 1) o (by omega) (by rw [List.getElem?_cons_succ]; exact hk), hp, if_pos hd]
      | succ j =>
        rw [List.getElem?_cons_succ] at ho hpj
        exact c3 j o p ho hpj hd fun k o2 hk ho2 => hlast (k + 1) o2 (by omega) (by rw [List.getElem?_cons_succ]; exact ho2)
/-! ### what must come ahead -/
noncomputable def maskS (acc : List Nat) (i : Nat) (es : List Edge) : Option Nat :=
  List.rec (motive := fun _ => Option Nat) (some 0) (fun e _ ih => match ih with
    | none => none
    | some m => cond (Region.binds .any e) (cond (Nat.blt e.on i) (match nth acc e.on with
      | some k => some (m ||| 2 ^ e.on ||| k)
      | none => none) none) (some m)) es
theorem maskS_cons (acc : List Nat) (i : Nat) (e : Edge) (es : List Edge) : maskS acc i (e :: es) = match maskS acc i es with
    | none => none
    | some m => cond (Region.binds .any e) (cond (Nat.blt e.on i) (match nth acc e.on with
      | some k => some (m ||| 2 ^ e.on ||| k)
      | none => none) none) (some m) := rfl
theorem maskS_spec (acc : List Nat) (i : Nat) : ∀ (es : List Edge) (m : Nat), maskS acc i es = some m → (∀ e ∈ es, Region.binds .any e = true → e.on < i) ∧ ∀ j, m.testBit j = true → ∃ e ∈ es, Region.binds .any e = true ∧ (e.on = j ∨ ∃ k, acc[e.on]? = some k ∧ k.testBit j = true)
  | [], m, hs => by
    have e : 0 = m := Option.some.inj hs
    subst e; simp
  | e :: es, m, hs => by
    rw [maskS_cons] at hs
    split at hs
    · cases hs
    · rename_i m' hm
      obtain ⟨i1, i2⟩ := maskS_spec acc i es m' hm
      cases hb : Region.binds .any e with
      | false =>
        rw [hb, cond_false] at hs
        cases hs
        refine ⟨fun x hx hbx => ?_, fun j hj => ?_⟩
        · rcases List.mem_cons.1 hx with rfl | hx
          · rw [hb] at hbx; cases hbx
          · exact i1 x hx hbx
        · obtain ⟨x, hx, h1⟩ := i2 j hj
          exact ⟨x, by simp [hx], h1⟩
      | true =>
        rw [hb, cond_true] at hs
        cases hl : Nat.blt e.on i with
        | false => rw [hl] at hs; cases hs
        | true =>
          rw [hl, cond_true] at hs
          split at hs
          case h_2 => cases hs
          rename_i k hk
          cases hs
          rw [nth_eq] at hk
          refine ⟨fun x hx hbx => ?_, fun j hj => ?_⟩
          · rcases List.mem_cons.1 hx with rfl | hx
            · exact blt_lt hl
            · exact i1 x hx hbx
          · rw [Nat.testBit_or, Nat.testBit_or, Bool.or_eq_true, Bool.or_eq_true] at hj
            rcases hj with (hj | hj) | hj
            · obtain ⟨x, hx, h1⟩ := i2 j hj
              exact ⟨x, by simp [hx], h1⟩
            · refine ⟨e, by simp, hb, .inl ?_⟩
              rw [Nat.testBit_two_pow] at hj
              simpa using hj
            · exact ⟨e, by simp, hb, .inr ⟨k, hk, hj⟩⟩
noncomputable def ancS (L : List Oper) : List Nat → Nat → Option (List Nat) :=
  List.rec (motive := fun _ => List Nat → Nat → Option (List Nat)) (fun acc _ => some acc) (fun o _ ih acc i => match maskS acc i o.after.toList with
    | some m => ih (acc ++ [m]) (i + 1)
    | none => none) L
theorem ancS_cons (o : Oper) (L : List Oper) (acc : List Nat) (i : Nat) : ancS (o :: L) acc i = match maskS acc i o.after.toList with
    | some m => ancS L (acc ++ [m]) (i + 1)
    | none => none := rfl
theorem ancS_spec : ∀ (L : List Oper) (acc : List Nat) (M : List Nat), ancS L acc acc.length = some M → M.length = acc.length + L.length ∧ (∀ j, j < acc.length → M[j]? = acc[j]?) ∧ ∀ j o, L[j]? = some o → ∃ m, M[acc.length + j]? = some m ∧ (∀ e ∈ o.after.toList, Region.binds .any e = true → e.on < acc.length + j) ∧ ∀ b, m.testBit b = true → ∃ e ∈ o.after.toList, Region.binds .any e = true ∧ (e.on = b ∨ ∃ k, M[e.on]? = some k ∧ k.testBit b = true)
  | [], acc, M, hs => by
    have e : acc = M := Option.some.inj hs
    subst e; simp
  | o :: L, acc, M, hs => by
    rw [ancS_cons] at hs
    split at hs
    case h_2 => cases hs
    rename_i m hm
    have hlen : (acc ++ [m]).length = acc.length + 1 := by simp
    rw [← hlen] at hs
    obtain ⟨l1, l2, l3⟩ := ancS_spec L (acc ++ [m]) M hs
    obtain ⟨s1, s2⟩ := maskS_spec acc acc.length o.after.toList m hm
    have hpre : ∀ j, j < acc.length → M[j]? = acc[j]? := fun j hj => by
      rw [l2 j (by rw [hlen]; omega), List.getElem?_append_left hj]
    refine ⟨by rw [l1, hlen, List.length_cons]; omega, hpre, fun j o' hj => ?_⟩
    cases j with
    | zero =>
      simp only [List.getElem?_cons_zero, Option.some.injEq] at hj
      subst hj
      refine ⟨m, by rw [Nat.add_zero, l2 _ (by rw [hlen]; omega), List.getElem?_append_right (Nat.le_refl _)]; simp, s1, fun b hb => ?_⟩
      obtain ⟨e, he, hbe, hc⟩ := s2 b hb
      refine ⟨e, he, hbe, ?_⟩
      rcases hc with hc | ⟨k, hk, hb2⟩
      · exact .inl hc
      · exact .inr ⟨k, by rw [hpre _ (s1 e he hbe)]; exact hk, hb2⟩
    | succ j =>
      rw [List.getElem?_cons_succ] at hj
      obtain ⟨m', h1, h2, h3⟩ := l3 j o' hj
      rw [hlen, show acc.length + 1 + j = acc.length + (j + 1) by omega] at h1 h2
      exact ⟨m', h1, h2, h3⟩
end Go.Rn
/-
  A symbolic world: regions that draw their order, checked. No condition.
-/
namespace Go.Rn
open Go.RowKit Go.MapKept
set_option linter.unusedVariables false
set_option linter.unusedSimpArgs false
variable {P : Program} {G : Nat} {w0 : World} {r : Ren} {h : Tr SObj} {nx : Nat} {w : World} {T : Tr Value} {a : Act} {call : CallS} {N : Nat} {ops : List Oper}
/-! ### who writes a slot -/
noncomputable def writS (N : Nat) (L : List Oper) : Nat → Tr Nat → Option (Tr Nat) :=
  List.rec (motive := fun _ => Nat → Tr Nat → Option (Tr Nat)) (fun _ W => some W) (fun o _ ih i W => match o.dst with
    | none => ih (i + 1) W
    | some d => cond (Nat.blt d N) (match W.get d with
      | none => ih (i + 1) (W.set d i)
      | some _ => none) none) L
theorem writS_cons (N : Nat) (o : Oper) (L : List Oper) (i : Nat) (W : Tr Nat) : writS N (o :: L) i W = match o.dst with
    | none => writS N L (i + 1) W
    | some d => cond (Nat.blt d N) (match W.get d with
      | none => writS N L (i + 1) (W.set d i)
      | some _ => none) none := rfl
theorem writS_spec (hN : N ≤ capB) : ∀ (L : List Oper) (i : Nat) (W W' : Tr Nat), writS N L i W = some W' → ∀ t : Tmp,
    (∀ j, W.get t = some j → W'.get t = some j ∧ ∀ (k : Nat) (o : Oper), L[k]? = some o → o.dst ≠ some t) ∧
    (∀ (k : Nat) (o : Oper), L[k]? = some o → o.dst = some t → t < N ∧ W'.get t = some (i + k) ∧ ∀ (k' : Nat) (o' : Oper), L[k']? = some o' → o'.dst = some t → k' = k) ∧
    (∀ j, W'.get t = some j → W.get t = some j ∨ ∃ (k : Nat) (o : Oper), L[k]? = some o ∧ o.dst = some t ∧ j = i + k)
  | [], i, W, W', hs, t => by
    have e : W = W' := Option.some.inj hs
    subst e
    exact ⟨fun j hj => ⟨hj, by simp⟩, by simp, fun j hj => .inl hj⟩
  | o :: L, i, W, W', hs, t => by
    rw [writS_cons] at hs
    cases hd : o.dst with
    | none =>
      rw [hd] at hs
      obtain ⟨c1, c2, c3⟩ := writS_spec hN L (i + 1) W W' hs t
      refine ⟨fun j hj => ⟨(c1 j hj).1, fun k o' ho => ?_⟩, fun k o' ho hdo => ?_, fun j hj => ?_⟩
      · cases k with
        | zero => simp only [List.getElem?_cons_zero, Option.some.injEq] at ho; subst ho; rw [hd]; simp
        | succ k => rw [List.getElem?_cons_succ] at ho; exact (c1 j hj).2 k o' ho
      · cases k with
        | zero => simp only [List.getElem?_cons_zero, Option.some.injEq] at ho; subst ho; rw [hd] at hdo; cases hdo
        | succ k =>
          rw [List.getElem?_cons_succ] at ho
          obtain ⟨d0, d1, d2⟩ := c2 k o' ho hdo
          refine ⟨d0, by rw [d1]; congr 1; omega, fun k' o2 ho2 hd2 => ?_⟩
          cases k' with
          | zero => simp only [List.getElem?_cons_zero, Option.some.injEq] at ho2; subst ho2; rw [hd] at hd2; cases hd2
          | succ k' => rw [List.getElem?_cons_succ] at ho2; rw [d2 k' o2 ho2 hd2]
      · rcases c3 j hj with h1 | ⟨k, o', h1, h2, h3⟩
        · exact .inl h1
        · exact .inr ⟨k + 1, o', by rw [List.getElem?_cons_succ]; exact h1, h2, by omega⟩
    | some d =>
      rw [hd] at hs
      simp only at hs
      cases hb : Nat.blt d N with
      | false => rw [hb] at hs; cases hs
      | true =>
        rw [hb, cond_true] at hs
        cases hg : W.get d with
        | some x => rw [hg] at hs; cases hs
        | none =>
          rw [hg] at hs
          have hset : ∀ u, (W.set d i).get u = if d = u then some i else W.get u := fun u => Tr.get_set (Nat.lt_of_lt_of_le (blt_lt hb) hN)
          obtain ⟨c1, c2, c3⟩ := writS_spec hN L (i + 1) (W.set d i) W' hs t
          refine ⟨fun j hj => ?_, fun k o' ho hdo => ?_, fun j hj => ?_⟩
          · have hne : d ≠ t := fun e => by subst e; rw [hg] at hj; cases hj
            obtain ⟨d1, d2⟩ := c1 j (by rw [hset, if_neg hne]; exact hj)
            refine ⟨d1, fun k o' ho => ?_⟩
            cases k with
            | zero => simp only [List.getElem?_cons_zero, Option.some.injEq] at ho; subst ho; rw [hd]; simpa using hne
            | succ k => rw [List.getElem?_cons_succ] at ho; exact d2 k o' ho
          · cases k with
            | zero =>
              simp only [List.getElem?_cons_zero, Option.some.injEq] at ho
              subst ho
              rw [hd] at hdo
              cases hdo
              obtain ⟨d1, d2⟩ := c1 i (by rw [hset, if_pos rfl])
              refine ⟨blt_lt hb, d1, fun k' o2 ho2 hd2 => ?_⟩
              cases k' with
              | zero => rfl
              | succ k' => rw [List.getElem?_cons_succ] at ho2; exact absurd hd2 (d2 k' o2 ho2)
            | succ k =>
              rw [List.getElem?_cons_succ] at ho
              have hne : d ≠ t := fun e => by
                subst e
                exact (c1 i (by rw [hset, if_pos rfl])).2 k o' ho hdo
              obtain ⟨d0, d1, d2⟩ := c2 k o' ho hdo
              refine ⟨d0, by rw [d1]; congr 1; omega, fun k' o2 ho2 hd2 => ?_⟩
              cases k' with
              | zero => simp only [List.getElem?_cons_zero, Option.some.injEq] at ho2; subst ho2; rw [hd] at hd2; cases hd2; exact absurd rfl hne
              | succ k' => rw [List.getElem?_cons_succ] at ho2; rw [d2 k' o2 ho2 hd2]
          · rcases c3 j hj with h1 | ⟨k, o', h1, h2, h3⟩
            · rw [hset] at h1
              by_cases e : d = t
              · rw [if_pos e] at h1
                cases h1
                exact .inr ⟨0, o, rfl, by rw [hd, e], rfl⟩
              · rw [if_neg e] at h1; exact .inl h1
            · exact .inr ⟨k + 1, o', by rw [List.getElem?_cons_succ]; exact h1, h2, by omega⟩
/-! ### the checks -/
structure Ent where
  i : Nat
  o : Oper
  m : Nat
  q : Rec
noncomputable def entS (L : List Oper) : List Nat → List Rec → Nat → List Ent :=
  List.rec (motive := fun _ => List Nat → List Rec → Nat → List Ent) (fun _ _ _ => []) (fun o _ ih M Q i => match M with
    | m :: M' => match Q with
      | q :: Q' => ⟨i, o, m, q⟩ :: ih M' Q' (i + 1)
      | [] => []
    | [] => []) L
theorem entS_get : ∀ (L : List Oper) (M : List Nat) (Q : List Rec) (i j : Nat) (o : Oper) (m : Nat) (q : Rec), L[j]? = some o → M[j]? = some m → Q[j]? = some q → (entS L M Q i)[j]? = some ⟨i + j, o, m, q⟩
  | [], M, Q, i, j, o, m, q, h1, h2, h3 => by simp at h1
  | o' :: L, [], Q, i, j, o, m, q, h1, h2, h3 => by simp at h2
  | o' :: L, m' :: M, [], i, j, o, m, q, h1, h2, h3 => by simp at h3
  | o' :: L, m' :: M, q' :: Q, i, 0, o, m, q, h1, h2, h3 => by
    simp only [List.getElem?_cons_zero, Option.some.injEq] at h1 h2 h3
    subst h1 h2 h3; rfl
  | o' :: L, m' :: M, q' :: Q, i, j + 1, o, m, q, h1, h2, h3 => by
    rw [List.getElem?_cons_succ] at h1 h2 h3
    have := entS_get L M Q (i + 1) j o m q h1 h2 h3
    rw [show i + 1 + j = i + (j + 1) by omega] at this
    exact this
theorem entS_mem : ∀ (L : List Oper) (M : List Nat) (Q : List Rec) (i j : Nat) (e : Ent), (entS L M Q i)[j]? = some e → e.i = i + j ∧ L[j]? = some e.o ∧ M[j]? = some e.m ∧ Q[j]? = some e.q
  | [], M, Q, i, j, e, he => by simp [entS] at he
  | o' :: L, [], Q, i, j, e, he => by simp [entS] at he
  | o' :: L, m' :: M, [], i, j, e, he => by simp [entS] at he
  | o' :: L, m' :: M, q' :: Q, i, 0, e, he => by
    have e1 : (⟨i, o', m', q'⟩ : Ent) = e := Option.some.inj he
    subst e1; exact ⟨rfl, rfl, rfl, rfl⟩
  | o' :: L, m' :: M, q' :: Q, i, j + 1, e, he => by
    obtain ⟨a1, a2, a3, a4⟩ := entS_mem L M Q (i + 1) j e he
    exact ⟨by omega, a2, a3, a4⟩
noncomputable def chainS (E : List Ent) : List (Nat × Nat) :=
  List.rec (motive := fun _ => List (Nat × Nat)) [] (fun e _ ih => cond e.q.acts ((e.i, e.m) :: ih) ih) E
theorem chainS_cons (e : Ent) (E : List Ent) : chainS (e :: E) = cond e.q.acts ((e.i, e.m) :: chainS E) (chainS E) := rfl
theorem chainS_conv : ∀ (E : List Ent) (k : Nat) (z : Nat × Nat), (chainS E)[k]? = some z → ∃ (j : Nat) (e : Ent), E[j]? = some e ∧ e.q.acts = true ∧ z = (e.i, e.m) ∧ cnt (E.map (·.q)) j = k
  | [], k, z, hz => by simp [chainS] at hz
  | e :: E, k, z, hz => by
    rw [chainS_cons] at hz
    cases hq : e.q.acts with
    | true =>
      rw [hq, cond_true] at hz
      cases k with
      | zero =>
        simp only [List.getElem?_cons_zero, Option.some.injEq] at hz
        exact ⟨0, e, rfl, hq, hz.symm, cnt_zero _⟩
      | succ k =>
        rw [List.getElem?_cons_succ] at hz
        obtain ⟨j, e', h1, h2, h3, h4⟩ := chainS_conv E k z hz
        exact ⟨j + 1, e', by rw [List.getElem?_cons_succ]; exact h1, h2, h3, by rw [List.map_cons, cnt_cons, hq, h4]; simp; omega⟩
    | false =>
      rw [hq, cond_false] at hz
      obtain ⟨j, e', h1, h2, h3, h4⟩ := chainS_conv E k z hz
      exact ⟨j + 1, e', by rw [List.getElem?_cons_succ]; exact h1, h2, h3, by rw [List.map_cons, cnt_cons, hq, h4]; simp⟩
theorem chainS_len : ∀ (E : List Ent), (chainS E).length = ((E.map (·.q)).filter (·.acts)).length
  | [] => rfl
  | e :: E => by
    rw [chainS_cons, List.map_cons]
    cases hq : e.q.acts
    · simp [hq, chainS_len E]
    · simp [hq, chainS_len E]
noncomputable def chainOk (E : List Ent) : Nat → Bool :=
  List.rec (motive := fun _ => Nat → Bool) (fun _ => true) (fun e _ ih A => cond e.q.acts (Nat.beq (Nat.land e.m A) A && ih (Nat.lor A (2 ^ e.i))) (ih A)) E
theorem chainOk_cons (e : Ent) (E : List Ent) (A : Nat) : chainOk (e :: E) A = cond e.q.acts (Nat.beq (Nat.land e.m A) A && chainOk E (Nat.lor A (2 ^ e.i))) (chainOk E A) := rfl
theorem land_bit {m A b : Nat} (h : Nat.land m A = A) (hb : A.testBit b = true) : m.testBit b = true := by
  have h2 : (m &&& A).testBit b = true := by
    show (Nat.land m A).testBit b = true
    rw [h]; exact hb
  rw [Nat.testBit_and, Bool.and_eq_true] at h2
  exact h2.1
theorem chainOk_spec : ∀ (E : List Ent) (A : Nat), chainOk E A = true → ∀ (j : Nat) (e : Ent), E[j]? = some e → e.q.acts = true → (∀ b, A.testBit b = true → e.m.testBit b = true) ∧ ∀ (k : Nat) (e' : Ent), k < j → E[k]? = some e' → e'.q.acts = true → e.m.testBit e'.i = true
  | [], A, hs, j, e, he, ha => by simp at he
  | e0 :: E, A, hs, j, e, he, ha => by
    rw [chainOk_cons] at hs
    cases hq : e0.q.acts with
    | true =>
      rw [hq, cond_true, Bool.and_eq_true] at hs
      have hl : Nat.land e0.m A = A := Nat.eq_of_beq_eq_true hs.1
      cases j with
      | zero =>
        simp only [List.getElem?_cons_zero, Option.some.injEq] at he
        subst he
        exact ⟨fun b hb => land_bit hl hb, fun k e' hk => by omega⟩
      | succ j =>
        rw [List.getElem?_cons_succ] at he
        obtain ⟨c1, c2⟩ := chainOk_spec E _ hs.2 j e he ha
        have hor : ∀ b, A.testBit b = true ∨ b = e0.i → e.m.testBit b = true := fun b hb => c1 b (by
          show (A ||| 2 ^ e0.i).testBit b = true
          rw [Nat.testBit_or, Bool.or_eq_true]
          rcases hb with hb | rfl
          · exact .inl hb
          · exact .inr (by rw [Nat.testBit_two_pow_self]))
        refine ⟨fun b hb => hor b (.inl hb), fun k e' hk he' ha' => ?_⟩
        cases k with
        | zero =>
          simp only [List.getElem?_cons_zero, Option.some.injEq] at he'
          subst he'
          exact hor _ (.inr rfl)
        | succ k =>
          rw [List.getElem?_cons_succ] at he'
          exact c2 k e' (by omega) he' ha'
    | false =>
      rw [hq, cond_false] at hs
      cases j with
      | zero =>
        simp only [List.getElem?_cons_zero, Option.some.injEq] at he
        subst he
        rw [hq] at ha; cases ha
      | succ j =>
        rw [List.getElem?_cons_succ] at he
        obtain ⟨c1, c2⟩ := chainOk_spec E _ hs j e he ha
        refine ⟨c1, fun k e' hk he' ha' => ?_⟩
        cases k with
        | zero =>
          simp only [List.getElem?_cons_zero, Option.some.injEq] at he'
          subst he'
          rw [hq] at ha'; cases ha'
        | succ k =>
          rw [List.getElem?_cons_succ] at he'
          exact c2 k e' (by omega) he' ha'
/-- In each world in which it may be carried out. -/
noncomputable def quietGo (ok : Tr SObj → Nat → Bool) (i m : Nat) (Z : List (Nat × Nat)) : List (Tr SObj × Nat) → Bool :=
  List.rec (motive := fun _ => List (Tr SObj × Nat) → Bool) (fun S => match S with
    | s :: _ => ok s.1 s.2
    | [] => true) (fun z Z' ih S => match S with
    | s :: S' => (cond ((z :: Z').all fun y => !Nat.testBit m y.1) (ok s.1 s.2) true) && (cond (Nat.testBit z.2 i) true (ih S'))
    | [] => true) Z
theorem quietGo_cons (ok : Tr SObj → Nat → Bool) (i m : Nat) (z : Nat × Nat) (Z : List (Nat × Nat)) (s : Tr SObj × Nat) (S : List (Tr SObj × Nat)) : quietGo ok i m (z :: Z) (s :: S) = ((cond ((z :: Z).all fun y => !Nat.testBit m y.1) (ok s.1 s.2) true) && (cond (Nat.testBit z.2 i) true (quietGo ok i m Z S))) := rfl
theorem quietGo_spec (ok : Tr SObj → Nat → Bool) (i m : Nat) : ∀ (Z : List (Nat × Nat)) (S : List (Tr SObj × Nat)), quietGo ok i m Z S = true → ∀ (k : Nat) (s : Tr SObj × Nat), k ≤ Z.length → S[k]? = some s → (∀ j z, k ≤ j → Z[j]? = some z → m.testBit z.1 = false) → (∀ j z, j < k → Z[j]? = some z → z.2.testBit i = false) → ok s.1 s.2 = true
  | [], S, hs, k, s, hk, hsk, h1, h2 => by
    have : k = 0 := by simpa using hk
    subst this
    cases S with
    | nil => simp at hsk
    | cons s' S =>
      simp only [List.getElem?_cons_zero, Option.some.injEq] at hsk
      subst hsk; exact hs
  | z :: Z, [], hs, k, s, hk, hsk, h1, h2 => by simp at hsk
  | z :: Z, s' :: S, hs, k, s, hk, hsk, h1, h2 => by
    rw [quietGo_cons, Bool.and_eq_true] at hs
    cases k with
    | zero =>
      simp only [List.getElem?_cons_zero, Option.some.injEq] at hsk
      subst hsk
      have hall : ((z :: Z).all fun y => !Nat.testBit m y.1) = true := by
        rw [List.all_eq_true]
        intro y hy
        obtain ⟨j, hj⟩ := List.getElem?_of_mem hy
        rw [h1 j y (Nat.zero_le _) hj]; rfl
      rw [hall, cond_true] at hs
      exact hs.1
    | succ k =>
      rw [List.getElem?_cons_succ] at hsk
      have hz := h2 0 z (by omega) rfl
      have hs2 := hs.2
      rw [hz, cond_false] at hs2
      exact quietGo_spec ok i m Z S hs2 k s (by simpa using hk) hsk (fun j y hj hy => h1 (j + 1) y (by omega) (by rw [List.getElem?_cons_succ]; exact hy)) (fun j y hj hy => h2 (j + 1) y (by omega) (by rw [List.getElem?_cons_succ]; exact hy))
/-- The slots that an operation looks at. -/
noncomputable def looksS (ops : List Oper) (o : Oper) : List Tmp :=
  (o.op.operands.toList.filterMap fun | .tmp t => some t | _ => none) ++ (match o.guard with
    | some (j, _) => match nth ops j with
      | some oj => match oj.dst with
        | some d => [d]
        | none => []
      | none => []
    | none => [])
noncomputable def entOk (P : Program) (G : Nat) (ops : List Oper) (W : Tr Nat) (Z : List (Nat × Nat)) (S : List (Tr SObj × Nat)) (e : Ent) : Bool :=
  ((looksS ops e.o).all fun t => match W.get t with
    | some k => Nat.testBit e.m k
    | none => true) && (cond (e.q.acts || !e.q.want) true (quietGo (fun h nx => match opS P G e.q.T h nx e.o with
    | some (.val v _ _) => veq v e.q.v
    | _ => false) e.i e.m Z S))
noncomputable def lastS (S : List (Tr SObj × Nat)) : Option (Tr SObj × Nat) := List.rec (motive := fun _ => Option (Tr SObj × Nat)) none (fun s _ ih => match ih with
  | some x => some x
  | none => some s) S
theorem lastS_get : ∀ (S : List (Tr SObj × Nat)) (s : Tr SObj × Nat), lastS S = some s → S[S.length - 1]? = some s
  | [], s, hs => by cases hs
  | [x], s, hs => by cases hs; rfl
  | x :: y :: S, s, hs => by
    have hr : lastS (y :: S) = some s := by
      have e : lastS (x :: y :: S) = match lastS (y :: S) with
        | some z => some z
        | none => some x := rfl
      rw [e] at hs
      cases h1 : lastS (y :: S) with
      | some z => rw [h1] at hs; exact hs
      | none =>
        have e2 : lastS (y :: S) = match lastS S with
          | some z => some z
          | none => some y := rfl
        rw [e2] at h1
        split at h1 <;> cases h1
    have := lastS_get (y :: S) s hr
    simpa using this
/-- A region that draws its order. -/
noncomputable def drawS (P : Program) (G : Nat) (call : CallS) (N : Nat) (ops : List Oper) (T : Tr Value) (h : Tr SObj) (nx : Nat) : Option (Tr Value × Tr SObj × Nat) :=
  match ancS ops [] 0 with
  | some M => match writS N ops 0 .leaf with
    | some W => match runD P G call N ops ops T h nx with
      | some (Q, S, Te) => cond ((entS ops M Q 0).all (entOk P G ops W (chainS (entS ops M Q 0)) S) && chainOk (entS ops M Q 0) 0) (match lastS S with
        | some (h', nx') => some (Te, h', nx')
        | none => none) none
      | none => none
    | none => none
  | none => none
end Go.Rn
