/-
  Merged texts (RC, RD, RE, RF, RG, RH, RHB), part 7 of 12. Conditions: each part's own, told at its head.
-/
import Derived.Test.YtnljjlaececnkaaGreatDoorBMP1
import Derived.Test.YtnljjlaececnkaaGreatDoorBMP2
import Derived.Test.YtnljjlaececnkaaGreatDoorBMP3
import Derived.Test.YtnljjlaececnkaaGreatDoorBMP4
import Derived.Test.YtnljjlaececnkaaGreatDoorBMP5
import Derived.Test.YtnljjlaececnkaaGreatDoorBMP6
import Derived.Deep.MidRow
import Derived.Laws.CopyRow
import Derived.Laws.Build
import Derived.DeepKeys
import Derived.DeepKeys3
import Derived.MapKept
import Derived.Laws.AppendOwn
import Derived.BigFrame
import Derived.Maps.AppendAt
/-
  A symbolic world's memory: cells read, cells written. No condition.
-/
namespace Go.Rn
open Go.RowKit
set_option linter.unusedVariables false
set_option linter.unusedSimpArgs false
variable {P : Program} {G : Nat} {w0 : World} {r : Ren} {h : Tr SObj} {nx : Nat} {w : World}
theorem renL_len (r : Ren) (l : List Value) : (renL r l).length = l.length := by rw [renL_map, List.length_map]
theorem renL_get (r : Ren) (l : List Value) (j : Nat) : (renL r l)[j]? = (l[j]?).map (ren r) := by rw [renL_map, List.getElem?_map]
theorem renL_app (r : Ren) (l m : List Value) : renL r (l ++ m) = renL r l ++ renL r m := by simp only [renL_map, List.map_append]
theorem renL_take (r : Ren) (l : List Value) (n : Nat) : renL r (l.take n) = (renL r l).take n := by simp only [renL_map, List.map_take]
theorem renL_drop (r : Ren) (l : List Value) (n : Nat) : renL r (l.drop n) = (renL r l).drop n := by simp only [renL_map, List.map_drop]
theorem LtL.app {n : Nat} {l m : List Value} (h1 : LtL n l) (h2 : LtL n m) : LtL n (l ++ m) := by
  rw [LtL_iff] at *
  intro v hv
  rcases List.mem_append.1 hv with hv | hv
  · exact h1 v hv
  · exact h2 v hv
theorem LtL.sub {n : Nat} {l m : List Value} (h1 : LtL n l) (h : ∀ v ∈ m, v ∈ l) : LtL n m := by
  rw [LtL_iff] at *
  exact fun v hv => h1 v (h v hv)
theorem LtL.get {n : Nat} {l : List Value} (h1 : LtL n l) {j : Nat} {v : Value} (h : l[j]? = some v) : Lt n v := (LtL_iff n l).1 h1 v (List.mem_of_getElem? h)
theorem one_ren (r : Ren) (v : Value) : (ren r v).oneCell' = v.oneCell' := by
  cases v with
  | pointer a => cases a <;> simp [ren, Value.oneCell']
  | slice a n c => cases a <;> simp [ren, Value.oneCell']
  | map a => cases a <;> simp [ren, Value.oneCell']
  | _ => simp [ren, Value.oneCell']
theorem cell_at (D : Den G w0 r h nx w) {i : Nat} {c : List Value} {t : TypeId} {op : Nat} (hi : h.get i = some (.cells c t op)) {o : Nat} {v : Value} (hv : c[o]? = some v) : w.cell? ⟨r.blk i, o, none⟩ = some (ren r v) := by
  obtain ⟨rest, h1, -⟩ := D.obj i _ hi
  have hl := (List.getElem?_eq_some_iff.1 hv).1
  simp only [World.cell?, h1, Option.isSome_none, Bool.false_eq_true, if_false, List.getElem?_toArray]
  rw [List.getElem?_append_left (by rw [renL_len]; exact hl), renL_get, hv]
  rfl
theorem store_at (D : Den G w0 r h nx w) {i : Nat} {c : List Value} {t : TypeId} {op : Nat} (hi : h.get i = some (.cells c t op)) (hG : G ≤ i) (o : Nat) (vs : List Value) (hl : o + vs.length ≤ c.length) (h1 : ∀ v ∈ vs, v.oneCell' = true) (hlt : LtL nx vs) :
    ∃ w', (storeCells ⟨r.blk i, o, none⟩ (renL r vs)).run P w = .ok () w' ∧ Den G w0 r (h.set i (.cells (c.take o ++ vs ++ c.drop (o + vs.length)) t op)) nx w' := by
  have hob := D.obj i _ hi
  obtain ⟨rest, hh, hr⟩ := hob
  have hrun := run_storeCells_at (P := P) (r.blk i) o t (renL r vs) 0 (renL r c ++ rest).toArray w hh (by simp [renL_len]; omega) (fun v hv => by
    rw [renL_map] at hv
    obtain ⟨u, hu, rfl⟩ := List.mem_map.1 hv
    rw [one_ren]; exact h1 u hu)
  refine ⟨_, hrun, ?_⟩
  have hlo := (D.low i hG (D.dom i (by rw [hi]; simp)))
  have hrow : (((renL r c ++ rest).toArray.toList.take (o + 0) ++ renL r vs ++ (renL r c ++ rest).toArray.toList.drop (o + 0 + (renL r vs).length))) = renL r (c.take o ++ vs ++ c.drop (o + vs.length)) ++ rest := by
    simp only [Nat.add_zero, renL_len]
    rw [renL_app, renL_app, renL_take, renL_drop, List.take_append_of_le_length (by rw [renL_len]; omega), List.drop_append_of_le_length (by rw [renL_len]; omega)]
    simp only [List.append_assoc]
  rw [hrow]
  have hlc : LtL nx (c.take o ++ vs ++ c.drop (o + vs.length)) := by
    have hc : LtL nx c := D.lt i _ hi
    exact ((hc.sub fun v hv => List.mem_of_mem_take hv).app hlt).app (hc.sub fun v hv => List.mem_of_mem_drop hv)
  have hset : ∀ k, (w.setRow (r.blk i) (renL r (c.take o ++ vs ++ c.drop (o + vs.length)) ++ rest).toArray).heap[k]? = if r.blk i = k then some (.cells (renL r (c.take o ++ vs ++ c.drop (o + vs.length)) ++ rest).toArray t (0, 0)) else w.heap[k]? := fun k => by
    simp only [World.setRow, Array.getElem?_modify]
    split
    · rename_i e; subst e; rw [hh]; rfl
    · rfl
  refine D.change hi hG (D.bel.trans ⟨rfl, rfl, rfl, by simp [World.setRow], fun k hk => ?_⟩) (by simp [World.setRow]) (fun k hk => ?_) hlc ⟨rest, ?_, ?_⟩
  · rw [hset, if_neg (by omega)]
  · rw [hset, if_neg (by omega)]
  · rw [hset, if_pos rfl]
  · split
    · rename_i e; rw [if_pos e] at hr; exact hr
    · rename_i e
      rw [if_neg e] at hr
      refine ⟨?_, hr.2⟩
      rw [← hr.1]
      simp only [List.length_append, List.length_take, List.length_drop]; omega
/-! ### variables -/
/-- What lies in a variable. -/
noncomputable def loadS (P : Program) (h : Tr SObj) (t : TypeId) : Value → Option Value
  | .pointer (some ⟨b, o, none⟩) => match h.get b with
    | some (.cells c _ _) => match P.underlying t with
      | some d => cond d.isRow
          (match P.info? t with
            | some i => cond (Nat.ble (o + i.size) c.length) (some (.agg ((c.drop o).take i.size).toArray)) none
            | none => none)
          (nth c o)
      | none => none
    | _ => none
  | _ => none
theorem loadS_sound (D : Den G w0 r h nx w) {t : TypeId} {v u : Value} (hs : loadS P h t v = some u) : (Instr.loadAt t (ren r v)).run P w = .ok (ren r u) w ∧ Lt nx u := by
  unfold loadS at hs
  split at hs
  case h_2 => cases hs
  rename_i b o
  split at hs
  case h_2 => cases hs
  rename_i c t' op hb
  split at hs
  case h_2 => cases hs
  rename_i d hd
  have hc : LtL nx c := D.lt b _ hb
  cases hr : d.isRow with
  | true =>
    rw [hr, cond_true] at hs
    split at hs
    case h_2 => cases hs
    rename_i i hi
    cases hle : Nat.ble (o + i.size) c.length with
    | false => rw [hle] at hs; cases hs
    | true =>
      rw [hle, cond_true] at hs
      cases hs
      have hle2 := Nat.le_of_ble_eq_true hle
      have hl : (renL r ((c.drop o).take i.size)).length = i.size := by rw [renL_len, List.length_take, List.length_drop]; omega
      refine ⟨?_, by simp only [Lt, LtA_iff]; exact (LtL_iff nx _).1 (hc.sub fun v hv => List.mem_of_mem_drop (List.mem_of_mem_take hv))⟩
      have := run_loadAt_mid (P := P) w (r.blk b) o t (renL r ((c.drop o).take i.size)) d (fun j v hj => by
        rw [renL_get] at hj
        obtain ⟨x, hx, rfl⟩ := Option.map_eq_some_iff.1 hj
        have hjl := (List.getElem?_eq_some_iff.1 hx).1
        rw [List.length_take] at hjl
        rw [List.getElem?_take, if_pos (by omega), List.getElem?_drop] at hx
        exact cell_at D hb hx) hd hr (by rw [hi, Option.map_some, hl])
      rw [show ren r (.pointer (some ⟨b, o, none⟩)) = .pointer (some ⟨r.blk b, o, none⟩) by simp [ren, Ren.addr], this]
      simp [ren, renA, renL_map]
  | false =>
    rw [hr, cond_false, nth_eq] at hs
    refine ⟨?_, hc.get hs⟩
    have hcell := cell_at D hb hs
    rw [show ren r (.pointer (some ⟨b, o, none⟩)) = .pointer (some ⟨r.blk b, o, none⟩) by simp [ren, Ren.addr]]
    have hagg : (isAgg t).run P w = .ok false w := by
      unfold isAgg
      rw [Sem.run_bind, run_underlying hd w]
      cases d <;> simp_all
    simp [Instr.loadAt, Instr.sureAddr, loadVar, Sem.run_bind, hagg, hcell]
/-- A variable is written. -/
noncomputable def storeS (P : Program) (G : Nat) (h : Tr SObj) (t : TypeId) (x : Value) : Value → Option (Tr SObj)
  | .pointer (some ⟨b, o, none⟩) => match h.get b with
    | some (.cells c e op) => match P.info? t with
      | some i => cond (Nat.ble G b && Nat.beq x.cells.size i.size && Nat.ble (o + i.size) c.length && x.cells.toList.all (·.oneCell'))
          (some (h.set b (.cells (match x.cells.toList with | [v] => setN c o v | l => c.take o ++ l ++ c.drop (o + l.length)) e op))) none
      | none => none
    | _ => none
  | _ => none
theorem set_parts (c : List Value) (o : Nat) (v : Value) (hl : o < c.length) : c.set o v = c.take o ++ [v] ++ c.drop (o + 1) := by
  rw [List.set_eq_take_append_cons_drop, if_pos hl]; simp
theorem storeS_sound (D : Den G w0 r h nx w) {t : TypeId} {v x : Value} {h' : Tr SObj} (hx : Lt nx x) (hs : storeS P G h t x v = some h') : ∃ w', (Instr.storeAt t (ren r v) (ren r x)).run P w = .ok () w' ∧ Den G w0 r h' nx w' := by
  unfold storeS at hs
  split at hs
  case h_2 => cases hs
  rename_i b o
  split at hs
  case h_2 => cases hs
  rename_i c e op hb
  split at hs
  case h_2 => cases hs
  rename_i i hi
  cases hc : (Nat.ble G b && Nat.beq x.cells.size i.size && Nat.ble (o + i.size) c.length && x.cells.toList.all (·.oneCell')) with
  | false => rw [hc] at hs; cases hs
  | true =>
    rw [hc, cond_true] at hs
    simp only [Bool.and_eq_true] at hc
    obtain ⟨⟨⟨c1, c2⟩, c3⟩, c4⟩ := hc
    have c1 := Nat.le_of_ble_eq_true c1
    have c2 : x.cells.size = i.size := Nat.eq_of_beq_eq_true c2
    have c3 := Nat.le_of_ble_eq_true c3
    have hlen : x.cells.toList.length = i.size := by rw [Array.length_toList]; exact c2
    obtain ⟨w', hrun, D'⟩ := store_at (P := P) D hb c1 o x.cells.toList (by omega) (fun v hv => List.all_eq_true.1 c4 v hv) ((LtL_iff nx _).2 (lt_cells hx))
    refine ⟨w', ?_, ?_⟩
    · have hsz : (ren r x).cells.size = i.size := by rw [ren_cells]; simpa using c2
      have hlist : (ren r x).cells.toList = renL r x.cells.toList := by rw [ren_cells, renL_map]; simp
      rw [show ren r (.pointer (some ⟨b, o, none⟩)) = .pointer (some ⟨r.blk b, o, none⟩) by simp [ren, Ren.addr]]
      simp [Instr.storeAt, Instr.sureAddr, storeVar, sizeOf, typeInfo, hi, hsz, hlist, hrun]
    · have he : (match x.cells.toList with | [v] => setN c o v | l => c.take o ++ l ++ c.drop (o + l.length)) = c.take o ++ x.cells.toList ++ c.drop (o + x.cells.toList.length) := by
        split
        · rename_i v hv
          rw [hv] at hlen ⊢
          rw [setN_eq, set_parts _ _ _ (by simp at hlen; omega)]; rfl
        · rfl
      rw [he] at hs
      cases hs
      exact D'
end Go.Rn
/-
  A symbolic world: what is computed, what is made. No condition.
-/
namespace Go.Rn
open Go.RowKit
set_option linter.unusedVariables false
set_option linter.unusedSimpArgs false
variable {P : Program} {G : Nat} {w0 : World} {r : Ren} {h : Tr SObj} {nx : Nat} {w : World}
theorem toList_ren (r : Ren) (a : Array Value) : (renA r a).toList = renL r a.toList := by rw [renA_map, renL_map]; simp
theorem run_zero {t : TypeId} {i : TypeInfo} {z : Value} (hi : P.info? t = some i) (hz : i.zero = some z) (w : World) : (zeroValue t).run P w = .ok z w := by
  simp [zeroValue, typeInfo, hi, hz]
theorem run_size {t : TypeId} {i : TypeInfo} (hi : P.info? t = some i) (w : World) : (sizeOf t).run P w = .ok i.size w := by
  simp [sizeOf, typeInfo, hi]
/-! ### what is made -/
/-- A row that is made. -/
noncomputable def newS (h : Tr SObj) (nx : Nat) (cs : List Value) (t : TypeId) : Option (Tr SObj) := cond (Nat.blt (nx + 1) capB) (some (h.set nx (.cells cs t 0))) none
theorem newS_sound (D : Den G w0 r h nx w) {cs : List Value} {t : TypeId} {h' : Tr SObj} (hl : LtL nx cs) (hs : newS h nx cs t = some h') {cells : Array Value} (hc : cells = (renL r cs).toArray) :
    (newRow t cells).run P w = .ok ⟨w.heap.size, 0, none⟩ (w.alloc (.cells cells t)) ∧ Agree nx r (Den.newR r nx w.heap.size 0) ∧ Den G w0 (Den.newR r nx w.heap.size 0) h' (nx + 1) (w.alloc (.cells cells t)) ∧ (Den.newR r nx w.heap.size 0).blk nx = w.heap.size := by
  unfold newS at hs
  cases hb : Nat.blt (nx + 1) capB with
  | false => rw [hb] at hs; cases hs
  | true =>
    rw [hb, cond_true] at hs
    cases hs
    subst hc
    refine ⟨by simp [newRow], Den.newR_agree _ _ _ _, D.alloc (Nat.le_of_ble_eq_true hb) hl, by simp [Den.newR]⟩
/-- A value laid into places. -/
noncomputable def splice (c : List Value) (o : Nat) (l : List Value) : List Value := match l with | [v] => setN c o v | l => c.take o ++ l ++ c.drop (o + l.length)
theorem splice_eq (c : List Value) (o : Nat) (l : List Value) (hl : o + l.length ≤ c.length) : splice c o l = c.take o ++ l ++ c.drop (o + l.length) := by
  unfold splice
  split
  · rename_i v
    rw [setN_eq, set_parts _ _ _ (by simp at hl; omega)]; rfl
  · rfl
noncomputable def fillS (place : Nat → Option (Nat × Nat)) (cells : List Value) (parts : List (Nat × Value)) : Option (List Value) :=
  List.rec (motive := fun _ => List Value → Option (List Value)) (fun c => some c) (fun p _ ih c => match place p.1 with
    | none => none
    | some (off, size) => cond (Nat.beq p.2.cells.size size && Nat.ble (off + size) c.length) (ih (splice c off p.2.cells.toList)) none) parts cells
theorem fillS_cons (place : Nat → Option (Nat × Nat)) (cells : List Value) (p : Nat × Value) (parts : List (Nat × Value)) : fillS place cells (p :: parts) = match place p.1 with
    | none => none
    | some (off, size) => cond (Nat.beq p.2.cells.size size && Nat.ble (off + size) cells.length) (fillS place (splice cells off p.2.cells.toList) parts) none := rfl
theorem fold_splice : ∀ (vs : List Value) (off k : Nat) (cs : Array Value), off + k + vs.length ≤ cs.size → ((vs.zipIdx k).foldl (fun cs (c, j) => cs.setIfInBounds (off + j) c) cs).toList = cs.toList.take (off + k) ++ vs ++ cs.toList.drop (off + k + vs.length)
  | [], off, k, cs, h => by simp
  | v :: vs, off, k, cs, h => by
    rw [List.zipIdx_cons, List.foldl_cons, fold_splice vs off (k + 1) _ (by simp at h ⊢; omega)]
    simp only [Array.toList_setIfInBounds]
    simp only [List.length_cons] at h
    rw [show off + (k + 1) = off + k + 1 by omega, List.take_succ_eq_append_getElem (by simp; omega), List.take_set_of_le (by omega), List.getElem_set_self, List.drop_set_of_lt (by omega), List.length_cons, show off + k + 1 + vs.length = off + k + (vs.length + 1) by omega]
    simp
theorem fillS_sound {place : Nat → Option (Nat × Nat)} {n : Nat} (r : Ren) : ∀ (parts : List (Nat × Value)) (cells cs : List Value), LtL n cells → (∀ p ∈ parts, Lt n p.2) → fillS place cells parts = some cs → Instr.fill place (renL r cells).toArray (parts.map fun p => (p.1, ren r p.2)) = some (renL r cs).toArray ∧ LtL n cs
  | [], cells, cs, hl, hp, hs => by
    have e : cells = cs := by simpa [fillS] using hs
    subst e
    exact ⟨by simp [Instr.fill], hl⟩
  | p :: parts, cells, cs, hl, hp, hs => by
    rw [fillS_cons] at hs
    rw [List.map_cons, Instr.fill]
    cases hpl : place p.1 with
    | none => rw [hpl] at hs; cases hs
    | some q =>
      obtain ⟨off, size⟩ := q
      rw [hpl] at hs
      simp only at hs
      cases hc : (Nat.beq p.2.cells.size size && Nat.ble (off + size) cells.length) with
      | false => rw [hc] at hs; cases hs
      | true =>
        rw [hc, cond_true] at hs
        simp only [Bool.and_eq_true] at hc
        have c1 : p.2.cells.size = size := Nat.eq_of_beq_eq_true hc.1
        have c2 := Nat.le_of_ble_eq_true hc.2
        have hsz : (ren r p.2).cells.size = size := by rw [ren_cells]; simpa using c1
        have hlen : p.2.cells.toList.length = size := by rw [Array.length_toList]; exact c1
        have hcond : ¬ ((ren r p.2).cells.size ≠ size ∨ off + (ren r p.2).cells.size > (renL r cells).toArray.size) := by
          rw [hsz, List.size_toArray, renL_len]
          intro hh
          rcases hh with hh | hh
          · exact hh rfl
          · omega
        have hfold : (ren r p.2).cells.zipIdx.foldl (fun cs (x : Value × Nat) => cs.setIfInBounds (off + x.2) x.1) (renL r cells).toArray = (renL r (splice cells off p.2.cells.toList)).toArray := by
          rw [← Array.foldl_toList, Array.toList_zipIdx]
          have hf := fold_splice (ren r p.2).cells.toList off 0 (renL r cells).toArray (by rw [Array.length_toList, hsz, List.size_toArray, renL_len]; omega)
          rw [← Array.toList_inj]
          refine Eq.trans hf ?_
          rw [splice_eq _ _ _ (by rw [hlen]; exact c2), renL_app, renL_app, renL_take, renL_drop, ren_cells]
          simp [renL_map]
        simp only [Bool.or_eq_true, decide_eq_true_eq, hcond, if_false]
        rw [hfold]
        refine fillS_sound r parts _ cs ?_ (fun q hq => hp q (by simp [hq])) hs
        rw [splice_eq _ _ _ (by rw [hlen]; exact c2)]
        exact ((hl.sub fun v hv => List.mem_of_mem_take hv).app ((LtL_iff n _).2 (lt_cells (hp p (by simp))))).app (hl.sub fun v hv => List.mem_of_mem_drop hv)
noncomputable def placesS (P : Program) (fs : List Field) : Option (List (Nat × Nat)) :=
  List.rec (motive := fun _ => Option (List (Nat × Nat))) (some []) (fun f _ ih => match P.info? f.type with
    | some i => match ih with
      | some m => some ((f.offset, i.size) :: m)
      | none => none
    | none => none) fs
theorem placesS_cons (f : Field) (fs : List Field) : placesS P (f :: fs) = match P.info? f.type with
    | some i => match placesS P fs with
      | some m => some ((f.offset, i.size) :: m)
      | none => none
    | none => none := rfl
theorem placesS_sound : ∀ (fs : List Field) (m : List (Nat × Nat)), placesS P fs = some m → ∀ w, (fs.mapM fun f => (do pure (f.offset, ← sizeOf f.type) : Sem (Nat × Nat))).run P w = .ok m w
  | [], m, hs, w => by
    have e : ([] : List (Nat × Nat)) = m := by simpa [placesS] using hs
    subst e; simp
  | f :: fs, m, hs, w => by
    rw [placesS_cons] at hs
    split at hs
    case h_2 => cases hs
    rename_i i hi
    split at hs
    case h_2 => cases hs
    rename_i m' hm
    cases hs
    rw [List.mapM_cons, Sem.run_bind, Sem.run_bind, run_size hi]
    simp only [Result.andThen_ok, Sem.run_pure, Sem.run_bind, placesS_sound fs m' hm w]
/-- A struct or an array of parts. -/
noncomputable def buildS (P : Program) (t : TypeId) (parts : List (Nat × Value)) : Option Value :=
  match P.info? t with
  | some i => match i.zero with
    | some z => cond (bare z)
        (match P.underlying t with
          | some (.struct fs) => match placesS P fs.toList with
            | some pl => match fillS (fun k => nth pl k) z.cells.toList parts with
              | some cs => some (.agg cs.toArray)
              | none => none
            | none => none
          | some (.array _ e) => match P.info? e with
            | some j => match fillS (fun k => some (k * j.size, j.size)) z.cells.toList parts with
              | some cs => some (.agg cs.toArray)
              | none => none
            | none => none
          | _ => none) none
    | none => none
  | none => none
theorem bare_cells {z : Value} (hz : bare z = true) (r : Ren) : renL r z.cells.toList = z.cells.toList := by
  have := congrArg Array.toList (ren_cells r z)
  rw [bare_ren hz] at this
  rw [renL_map]
  simpa using this.symm
theorem bare_cells_lt {z : Value} (hz : bare z = true) (n : Nat) : LtL n z.cells.toList := (LtL_iff n _).2 (lt_cells (bare_lt hz))
theorem buildS_sound {t : TypeId} {parts : List (Nat × Value)} {u : Value} (hp : ∀ p ∈ parts, Lt nx p.2) (hs : buildS P t parts = some u) {pa : Array (Nat × Value)} (hpa : pa.toList = parts.map fun p => (p.1, ren r p.2)) (w : World) : (Instr.build t pa).run P w = .ok (ren r u) w ∧ Lt nx u := by
  unfold buildS at hs
  split at hs
  case h_2 => cases hs
  rename_i i hi
  split at hs
  case h_2 => cases hs
  rename_i z hz
  cases hb : bare z with
  | false => rw [hb] at hs; cases hs
  | true =>
    rw [hb, cond_true] at hs
    split at hs
    · rename_i fs hu
      split at hs
      case h_2 => cases hs
      rename_i pl hpl
      split at hs
      case h_2 => cases hs
      rename_i cs hcs
      cases hs
      obtain ⟨f1, f2⟩ := fillS_sound r parts _ cs (bare_cells_lt hb nx) hp hcs
      rw [bare_cells hb] at f1
      have hplaces : (fs.mapM fun f => (do pure (f.offset, ← sizeOf f.type) : Sem (Nat × Nat))).run P w = .ok pl.toArray w := by
        rw [Array.mapM_eq_mapM_toList, map_eq_pure_bind, Sem.run_bind, placesS_sound fs.toList pl hpl w]; rfl
      have hfun : (fun k => nth pl k) = (fun k => pl.toArray[k]?) := by funext k; rw [nth_eq]; simp
      rw [hfun] at f1
      refine ⟨?_, by simp only [Lt, LtA_iff]; exact (LtL_iff nx _).1 f2⟩
      unfold Instr.build
      simp only [Sem.run_bind, run_zero hi hz, Result.andThen_ok, run_underlying hu, hplaces, hpa, f1]
      simp [ren, renA]
    · rename_i n e hu
      split at hs
      case h_2 => cases hs
      rename_i j hj
      split at hs
      case h_2 => cases hs
      rename_i cs hcs
      cases hs
      obtain ⟨f1, f2⟩ := fillS_sound r parts _ cs (bare_cells_lt hb nx) hp hcs
      rw [bare_cells hb] at f1
      refine ⟨?_, by simp only [Lt, LtA_iff]; exact (LtL_iff nx _).1 f2⟩
      unfold Instr.build
      simp only [Sem.run_bind, run_zero hi hz, Result.andThen_ok, run_underlying hu, run_size hj, hpa, f1]
      simp [ren, renA]
    · cases hs
/-- The zero cells of some elements. -/
noncomputable def rep (n : Nat) (l : List Value) : List Value := Nat.rec (motive := fun _ => List Value) [] (fun _ ih => l ++ ih) n
theorem rep_zero (l : List Value) : rep 0 l = [] := rfl
theorem rep_succ (n : Nat) (l : List Value) : rep (n + 1) l = l ++ rep n l := rfl
theorem rep_len (l : List Value) : ∀ n, (rep n l).length = n * l.length
  | 0 => by simp [rep_zero]
  | n + 1 => by rw [rep_succ, List.length_append, rep_len l n, Nat.succ_mul]; omega
theorem rep_get (l : List Value) : ∀ n k, k < n * l.length → (rep n l)[k]? = l[k % l.length]?
  | 0, k, hk => by simp at hk
  | n + 1, k, hk => by
    rw [rep_succ]
    by_cases c : k < l.length
    · rw [List.getElem?_append_left c, Nat.mod_eq_of_lt c]
    · rw [List.getElem?_append_right (by omega), rep_get l n _ (by rw [Nat.succ_mul] at hk; omega), Nat.mod_eq_sub_mod (a := k) (b := l.length) (by omega)]
theorem rep_eq (z : Array Value) (n : Nat) : ((Array.range (n * z.size)).map (z[· % z.size]!)) = (rep n z.toList).toArray := by
  rw [← Array.toList_inj]
  apply List.ext_getElem?
  intro k
  by_cases hk : k < n * z.size
  · rw [rep_get z.toList n k (by simpa using hk)]
    have hpos : 0 < z.size := by
      rcases Nat.eq_zero_or_pos z.size with e | e
      · rw [e] at hk; simp at hk
      · exact e
    have hm := Nat.mod_lt k hpos
    rw [Array.getElem?_toList, Array.getElem?_map, Array.getElem?_range]
    simp only [hk, if_true, Option.map_some]
    rw [Array.length_toList, Array.getElem?_toList, Array.getElem?_eq_getElem hm, getElem!_pos z _ hm]
  · rw [List.getElem?_eq_none (by simpa using hk), List.getElem?_eq_none (by simp [rep_len]; omega)]
theorem rep_lt {l : List Value} {m : Nat} (hl : LtL m l) : ∀ n, LtL m (rep n l)
  | 0 => by simp [rep_zero, LtL]
  | n + 1 => by rw [rep_succ]; exact hl.app (rep_lt hl n)
theorem rep_bare {l : List Value} {r : Ren} (hl : renL r l = l) : ∀ n, renL r (rep n l) = rep n l
  | 0 => by simp [rep_zero, renL]
  | n + 1 => by rw [rep_succ, renL_app, hl, rep_bare hl n]
noncomputable def buildSliceS (P : Program) (h : Tr SObj) (nx : Nat) (t : TypeId) (len : Nat) (parts : List (Nat × Value)) : Option (Value × Tr SObj) :=
  match P.underlying t with
  | some (.slice e) => match P.info? e with
    | some i => match i.zero with
      | some z => cond (bare z && Nat.beq z.cells.size i.size && Nat.ble (len * i.size) 16777216)
          (match fillS (fun k => some (k * i.size, i.size)) (rep len z.cells.toList) parts with
            | some cs => match newS h nx cs e with
              | some h' => some (.slice (some ⟨nx, 0, none⟩) len len, h')
              | none => none
            | none => none) none
      | none => none
    | none => none
  | _ => none
/-- What an operation that makes something leaves. -/
def Made (G : Nat) (w0 : World) (r : Ren) (nx : Nat) (w : World) (u : Value) (h' : Tr SObj) (nx' : Nat) (res : Result Value) : Prop := ∃ r' w', res = .ok (ren r' u) w' ∧ Agree nx r r' ∧ nx ≤ nx' ∧ Lt nx' u ∧ Den G w0 r' h' nx' w'
theorem capOf_small (r : Ren) {c : Nat} (hc : c < capB) : r.capOf c = c := by unfold Ren.capOf; rw [if_pos hc]
theorem range0 (f : Nat → Value) : (Array.range 0).map f = #[] := by simp
theorem buildSliceS_sound (D : Den G w0 r h nx w) {t : TypeId} {len : Nat} {parts : List (Nat × Value)} {u : Value} {h' : Tr SObj} (hlen : len < capB) (hp : ∀ p ∈ parts, Lt nx p.2) (hs : buildSliceS P h nx t len parts = some (u, h')) {pa : Array (Nat × Value)} (hpa : pa.toList = parts.map fun p => (p.1, ren r p.2)) :
    Made G w0 r nx w u h' (nx + 1) ((Instr.buildSlice t len pa).run P w) := by
  unfold buildSliceS at hs
  split at hs
  case h_2 => cases hs
  rename_i e hu
  split at hs
  case h_2 => cases hs
  rename_i i hi
  split at hs
  case h_2 => cases hs
  rename_i z hz
  cases hc : (bare z && Nat.beq z.cells.size i.size && Nat.ble (len * i.size) 16777216) with
  | false => rw [hc] at hs; cases hs
  | true =>
    rw [hc, cond_true] at hs
    simp only [Bool.and_eq_true] at hc
    obtain ⟨⟨hb, c2⟩, c3⟩ := hc
    have c2 : z.cells.size = i.size := Nat.eq_of_beq_eq_true c2
    have c3 := Nat.le_of_ble_eq_true c3
    split at hs
    case h_2 => cases hs
    rename_i cs hcs
    split at hs
    case h_2 => cases hs
    rename_i h2 hnew
    cases hs
    obtain ⟨f1, f2⟩ := fillS_sound r parts _ cs (rep_lt (bare_cells_lt hb nx) len) hp hcs
    rw [rep_bare (bare_cells hb r)] at f1
    obtain ⟨n1, n2, n3, n4⟩ := newS_sound (P := P) D f2 hnew rfl
    refine ⟨_, _, ?_, n2, Nat.le_succ _, ?_, n3⟩
    · unfold Instr.buildSlice
      have hlim : ¬ len * i.size > 2 ^ 24 := by omega
      simp only [Sem.run_bind, run_underlying hu, Result.andThen_ok, run_size hi, hlim, if_false]
      by_cases h0 : len * i.size = 0
      · have e1 : (rep len z.cells.toList) = [] := List.eq_nil_of_length_eq_zero (by rw [rep_len, Array.length_toList, c2]; exact h0)
        rw [e1] at f1
        simp only [h0, if_true, Sem.run_pure, Result.andThen_ok, range0]
        rw [hpa, f1]
        simp only [Sem.run_bind, n1, Result.andThen_ok, Sem.run_pure]
        simp [ren, Ren.addr, n4, capOf_small _ hlen]
      · have hcell := rep_eq z.cells len
        rw [c2] at hcell
        simp only [h0, if_false, Sem.run_bind, run_zero hi hz, Result.andThen_ok, Sem.run_pure]
        rw [c2, hcell, hpa, f1]
        simp only [Sem.run_bind, n1, Result.andThen_ok, Sem.run_pure]
        simp [ren, Ren.addr, n4, capOf_small _ hlen]
    · simp only [Lt]
      exact ⟨Nat.lt_succ_self _, fun hcap => absurd hlen (by omega)⟩
/-- A variable that is made. -/
noncomputable def allocS (P : Program) (h : Tr SObj) (nx : Nat) (t : TypeId) : Option (Value × Tr SObj) :=
  match P.info? t with
  | some i => match i.zero with
    | some z => cond (bare z) (match newS h nx z.cells.toList t with
      | some h' => some (.pointer (some ⟨nx, 0, none⟩), h')
      | none => none) none
    | none => none
  | none => none
theorem allocS_sound (D : Den G w0 r h nx w) {t : TypeId} {u : Value} {h' : Tr SObj} (hs : allocS P h nx t = some (u, h')) : Made G w0 r nx w u h' (nx + 1) ((Instr.alloc t true (.tuple #[])).run P w) := by
  unfold allocS at hs
  split at hs
  case h_2 => cases hs
  rename_i i hi
  split at hs
  case h_2 => cases hs
  rename_i z hz
  cases hb : bare z with
  | false => rw [hb] at hs; cases hs
  | true =>
    rw [hb, cond_true] at hs
    split at hs
    case h_2 => cases hs
    rename_i h2 hnew
    cases hs
    obtain ⟨n1, n2, n3, n4⟩ := newS_sound (P := P) (cells := z.cells) D (bare_cells_lt hb nx) hnew (by rw [bare_cells hb])
    refine ⟨_, _, ?_, n2, Nat.le_succ _, by simp [Lt], n3⟩
    simp only [Instr.alloc, Sem.run_bind, run_zero hi hz, Result.andThen_ok, newVar, n1, Sem.run_pure]
    simp [ren, Ren.addr, n4]
noncomputable def boxS (h : Tr SObj) (nx : Nat) (t : TypeId) (v : Value) : Option (Value × Tr SObj) :=
  match newS h nx v.cells.toList t with
  | some h' => some (.pointer (some ⟨nx, 0, none⟩), h')
  | none => none
theorem boxS_sound (D : Den G w0 r h nx w) {t : TypeId} {v u : Value} {h' : Tr SObj} (hv : Lt nx v) (hs : boxS h nx t v = some (u, h')) : Made G w0 r nx w u h' (nx + 1) ((Instr.box t (ren r v)).run P w) := by
  unfold boxS at hs
  split at hs
  case h_2 => cases hs
  rename_i h2 hnew
  cases hs
  obtain ⟨n1, n2, n3, n4⟩ := newS_sound (P := P) (cells := (ren r v).cells) D ((LtL_iff nx _).2 (lt_cells hv)) hnew (by rw [← Array.toList_inj, ren_cells, renL_map, Array.toList_map])
  refine ⟨_, _, ?_, n2, Nat.le_succ _, by simp [Lt], n3⟩
  simp only [Instr.box, Sem.run_bind, newVar, n1, Result.andThen_ok, Sem.run_pure]
  simp [ren, Ren.addr, n4]
end Go.Rn
/-
  A symbolic world: numbers, texts, comparisons. No condition.
-/
namespace Go.Rn
open Go.RowKit
set_option linter.unusedVariables false
set_option linter.unusedSimpArgs false
variable {P : Program} {G : Nat} {w0 : World} {r : Ren} {h : Tr SObj} {nx : Nat} {w : World}
deriving instance DecidableEq for Lit
/-- Are two texts one? -/
noncomputable def strEq (l : List UInt8) : List UInt8 → Bool :=
  List.rec (motive := fun _ => List UInt8 → Bool) (fun m => List.rec (motive := fun _ => Bool) true (fun _ _ _ => false) m)
    (fun x _ ih m => List.rec (motive := fun _ => Bool) false (fun y m _ => cond (Nat.beq x.toNat y.toNat) (ih m) false) m) l
theorem strEq_iff : ∀ l m : List UInt8, strEq l m = true ↔ l = m
  | [], [] => by simp [show strEq [] [] = true from rfl]
  | [], y :: m => by simp [show strEq [] (y :: m) = false from rfl]
  | x :: l, [] => by simp [show strEq (x :: l) [] = false from rfl]
  | x :: l, y :: m => by
    rw [show strEq (x :: l) (y :: m) = cond (Nat.beq x.toNat y.toNat) (strEq l m) false from rfl]
    cases hb : Nat.beq x.toNat y.toNat with
    | true =>
      rw [cond_true, strEq_iff l m]
      have := UInt8.toNat_inj.1 (Nat.eq_of_beq_eq_true hb)
      subst this; simp
    | false =>
      rw [cond_false]
      have : x ≠ y := fun e => by subst e; simp at hb
      simp [this]
theorem strEq_beq (x y : ByteArray) : (x.toList == y.toList) = strEq x.data.toList y.data.toList := by
  rw [ByteArray.toList_eq, ByteArray.toList_eq, Bool.eq_iff_iff, beq_iff_eq, strEq_iff]
/-- What numbers give. -/
noncomputable def intS (op : BinOp) (k : IntKind) (a b : Int) : Option Value :=
  match op with
  | .add => some (.int k (k.wrap (a + b)))
  | .sub => some (.int k (k.wrap (a - b)))
  | .mul => some (.int k (k.wrap (a * b)))
  | .quo => if b = 0 then none else some (.int k (k.wrap (a.tdiv b)))
  | .rem => if b = 0 then none else some (.int k (a.tmod b))
  | .and => some (.int k (k.wrap (BitVec.ofInt k.bits a &&& BitVec.ofInt k.bits b).toNat))
  | .or => some (.int k (k.wrap (BitVec.ofInt k.bits a ||| BitVec.ofInt k.bits b).toNat))
  | .xor => some (.int k (k.wrap (BitVec.ofInt k.bits a ^^^ BitVec.ofInt k.bits b).toNat))
  | .andNot => some (.int k (k.wrap (BitVec.ofInt k.bits a &&& ~~~BitVec.ofInt k.bits b).toNat))
  | .eql => some (.bool (a == b))
  | .neq => some (.bool (a != b))
  | .lss => some (.bool (a < b))
  | .leq => some (.bool (a ≤ b))
  | .gtr => some (.bool (a > b))
  | .geq => some (.bool (a ≥ b))
  | .shl | .shr => none
noncomputable def shiftS (op : BinOp) (k : IntKind) (a b : Int) : Option Value :=
  if b < 0 then none else match op with
  | .shl => some (.int k (k.wrap (a * 2 ^ (min b.toNat k.bits))))
  | .shr => some (.int k (a.fdiv (2 ^ (min b.toNat k.bits))))
  | _ => none
noncomputable def strS (op : BinOp) (x y : ByteArray) : Option Value :=
  match op with
  | .add => cond (Nat.ble (x.data.toList.length + y.data.toList.length) 4611686018427387904) (some (.string ⟨(x.data.toList ++ y.data.toList).toArray⟩)) none
  | .eql => some (.bool (strEq x.data.toList y.data.toList))
  | .neq => some (.bool (!strEq x.data.toList y.data.toList))
  | .lss => some (.bool (Op.bytesLess x.data.toList y.data.toList))
  | .leq => some (.bool (Op.bytesLess x.data.toList y.data.toList || strEq x.data.toList y.data.toList))
  | .gtr => some (.bool (!(Op.bytesLess x.data.toList y.data.toList || strEq x.data.toList y.data.toList)))
  | .geq => some (.bool (!Op.bytesLess x.data.toList y.data.toList))
  | _ => none
/-- Is it nil, or else? (Of two values of which one is nil.) -/
noncomputable def nilS : Value → Value → Option Bool
  | .pointer none, .pointer b => some b.isNone
  | .pointer (some _), .pointer none => some false
  | .nilIface, .iface _ _ => some false
  | .iface _ _, .nilIface => some false
  | .slice none _ _, .slice b _ _ => some b.isNone
  | .slice (some _) _ _, .slice none _ _ => some false
  | .map none, .map b => some b.isNone
  | .map (some _), .map none => some false
  | .nilFunc, .nilFunc => some true
  | .nilFunc, .func _ _ _ => some false
  | .func _ _ _, .nilFunc => some false
  | _, _ => none
/-- Does the type fit the values? -/
noncomputable def nilFits (d : TypeDesc) : Value → Bool
  | .pointer _ => match d with | .pointer _ => true | _ => false
  | .nilIface => match d with | .interface _ => true | _ => false
  | .iface _ _ => match d with | .interface _ => true | _ => false
  | .slice _ _ _ => match d with | .slice _ => true | _ => false
  | .map _ => match d with | .map _ _ => true | _ => false
  | .nilFunc => match d with | .func _ _ _ => true | _ => false
  | .func _ _ _ => match d with | .func _ _ _ => true | _ => false
  | _ => false
/-- Structs and arrays of plain cells. -/
noncomputable def aggEq (P : Program) (t : TypeId) (xs ys : Array Value) : Option Bool :=
  cond (P.keyTypeAt 12 t && (Value.agg xs).formed P t && (Value.agg ys).formed P t && bareA xs && bareA ys && !P.eqGuardType P.depth t)
    (match P.keyLits 12 t xs.toList, P.keyLits 12 t ys.toList with
      | some la, some lb => some (decide (la = lb))
      | _, _ => none) none
noncomputable def eqS (P : Program) (t : TypeId) (x y : Value) : Option Bool :=
  match x, y with
  | .bool a, .bool b => match P.underlying t with
    | some .bool => some (a == b)
    | _ => none
  | .agg xs, .agg ys => aggEq P t xs ys
  | x, y => match P.underlying t with
    | some d => cond (nilFits d x && nilFits d y) (nilS x y) none
    | none => none
noncomputable def binS (P : Program) (op : BinOp) (t : TypeId) (x y : Value) : Option Value :=
  match x, y with
  | .int k a, .int k' b => match op with
    | .shl | .shr => shiftS op k a b
    | _ => if k = k' then intS op k a b else none
  | .string a, .string b => strS op a b
  | x, y => match op with
    | .eql => match eqS P t x y with
      | some b => some (.bool b)
      | none => none
    | .neq => match eqS P t x y with
      | some b => some (.bool (!b))
      | none => none
    | _ => none
theorem run_eqGuard_not {op : BinOp} {t : TypeId} {xo yo : Operand} {a b : Value} (h1 : ¬ (a = .nilIface ∧ b = .nilIface)) (h2 : (∀ xs ys, a = .agg xs → b = .agg ys → P.eqGuardType P.depth t = false)) (w : World) : (eqGuard op t xo yo a b).run P w = .ok () w := by
  have key : (match a, b with
    | .nilIface, .nilIface => (do
      if (xo matches .const _) || (yo matches .const _) then return
      if ← Op.eqGuardIn Op.maxDepth t a b then unsupported (.noEntry "binop/eql: two nil values of an interface type with methods, neither of them the literal nil") : Sem Unit)
    | .agg _, .agg _ => (do
      if !(← program).eqGuardType (← program).depth t then return
      if ← Op.eqGuardIn Op.maxDepth t a b then unsupported (.noEntry "binop/eql: two nil values of an interface type with methods, in a part of a struct or an array") : Sem Unit)
    | _, _ => (pure () : Sem Unit)).run P w = .ok () w := by
    split
    · exact absurd ⟨rfl, rfl⟩ h1
    · rename_i xs ys
      simp [h2 xs ys rfl rfl, program, Sem.run]
    · rfl
  cases op <;> first | exact key | rfl
theorem nilS_ren {x y : Value} {b : Bool} (hs : nilS x y = some b) : nilS (ren r x) (ren r y) = some b := by
  unfold nilS at hs
  split at hs <;> cases hs <;> first | rfl | (rename_i b; cases b <;> rfl) | (rename_i b _ _; cases b <;> rfl) | simp [ren, nilS]
theorem nilFits_ren (d : TypeDesc) (x : Value) : nilFits d (ren r x) = nilFits d x := by
  cases x with
  | pointer a => cases a <;> rfl
  | slice a n c => cases a <;> rfl
  | map a => cases a <;> rfl
  | _ => simp [ren, nilFits]
theorem equal_step {t : TypeId} {d : TypeDesc} (hu : P.underlying t = some d) (x y : Value) (w : World) : (Op.equal t x y).run P w = (Op.equalIn (9999 + 1) t x y).run P w := rfl
theorem nilS_equal {t : TypeId} {d : TypeDesc} {x y : Value} {b : Bool} (hu : P.underlying t = some d) (h1 : nilFits d x = true) (h2 : nilFits d y = true) (hs : nilS x y = some b) (w : World) : (Op.equal t x y).run P w = .ok b w := by
  unfold nilS at hs
  split at hs <;> cases hs <;> (cases d <;> first | (simp [nilFits] at h1; done) | (simp [nilFits] at h2; done) | (rw [equal_step hu, Op.equalIn, Sem.run_bind, run_underlying hu]; rfl))
theorem nilS_not {x y : Value} {b : Bool} (hs : nilS x y = some b) : ¬ (x = .nilIface ∧ y = .nilIface) ∧ ∀ xs ys, x = .agg xs → y = .agg ys → False := by
  unfold nilS at hs
  split at hs <;> cases hs <;> simp
theorem aggEq_sound {t : TypeId} {xs ys : Array Value} {b : Bool} (hs : aggEq P t xs ys = some b) (w : World) : (Op.equal t (.agg xs) (.agg ys)).run P w = .ok b w ∧ bareA xs = true ∧ bareA ys = true ∧ P.eqGuardType P.depth t = false := by
  unfold aggEq at hs
  cases hc : (P.keyTypeAt 12 t && (Value.agg xs).formed P t && (Value.agg ys).formed P t && bareA xs && bareA ys && !P.eqGuardType P.depth t) with
  | false => rw [hc] at hs; cases hs
  | true =>
    rw [hc, cond_true] at hs
    simp only [Bool.and_eq_true] at hc
    obtain ⟨⟨⟨⟨⟨c1, c2⟩, c3⟩, c4⟩, c5⟩, c6⟩ := hc
    split at hs
    case h_2 => cases hs
    rename_i la lb ha hb
    cases hs
    obtain ⟨q, hr, hiff⟩ := run_equalIn_deep (P := P) (10000 - 12) 12 t c1 w 12 12 _ _ la lb c2 c3 (by simpa [Value.cells] using ha) (by simpa [Value.cells] using hb)
    have e : q = decide (la = lb) := by rw [Bool.eq_iff_iff, hiff, decide_eq_true_eq]
    refine ⟨?_, c4, c5, by simpa using c6⟩
    rw [← e]
    exact hr
theorem eqS_sound {op : BinOp} {t : TypeId} {xo yo : Operand} {x y : Value} {b : Bool} (hs : eqS P t x y = some b) (w : World) : (eqGuard op t xo yo (ren r x) (ren r y)).run P w = .ok () w ∧ (Op.equal t (ren r x) (ren r y)).run P w = .ok b w := by
  unfold eqS at hs
  split at hs
  · rename_i a c
    split at hs
    case h_2 => cases hs
    rename_i hu
    cases hs
    exact ⟨run_eqGuard_not (by simp [ren]) (by simp [ren]) w, by simp only [ren]; rw [equal_step hu, Op.equalIn, Sem.run_bind, run_underlying hu]; rfl⟩
  · rename_i xs ys
    obtain ⟨e1, e2, e3, e4⟩ := aggEq_sound hs w
    simp only [ren, bareA_ren e2, bareA_ren e3]
    exact ⟨run_eqGuard_not (by simp) (fun _ _ _ _ => e4) w, e1⟩
  · split at hs
    case h_2 => cases hs
    rename_i d hu
    cases hc : (nilFits d x && nilFits d y) with
    | false => rw [hc] at hs; cases hs
    | true =>
      rw [hc, cond_true] at hs
      simp only [Bool.and_eq_true] at hc
      have hs2 := nilS_ren (r := r) hs
      refine ⟨run_eqGuard_not (nilS_not hs2).1 (fun xs ys h1 h2 => ((nilS_not hs2).2 xs ys h1 h2).elim) w, nilS_equal hu (by rw [nilFits_ren]; exact hc.1) (by rw [nilFits_ren]; exact hc.2) hs2 w⟩
theorem eqS_bin {t : TypeId} {x y : Value} {b : Bool} (hs : eqS P t x y = some b) : binOp .eql t (ren r x) (ren r y) = (do pure (.bool (← Op.equal t (ren r x) (ren r y)))) ∧ binOp .neq t (ren r x) (ren r y) = (do pure (.bool (!(← Op.equal t (ren r x) (ren r y))))) := by
  unfold eqS at hs
  split at hs
  · simp only [ren]; exact ⟨rfl, rfl⟩
  · simp only [ren]; exact ⟨rfl, rfl⟩
  · split at hs
    case h_2 => cases hs
    rename_i d hu
    cases hc : (nilFits d x && nilFits d y) with
    | false => rw [hc] at hs; cases hs
    | true =>
      rw [hc, cond_true] at hs
      unfold nilS at hs
      split at hs
      case h_12 => cases hs
      all_goals first | (simp only [ren]; exact ⟨rfl, rfl⟩) | (rename_i b _ _; cases b <;> (simp only [ren]; exact ⟨rfl, rfl⟩)) | (rename_i b _; cases b <;> (simp only [ren]; exact ⟨rfl, rfl⟩)) | (rename_i b; cases b <;> (simp only [ren]; exact ⟨rfl, rfl⟩))
theorem cat_data (x y : ByteArray) : x ++ y = ⟨(x.data.toList ++ y.data.toList).toArray⟩ := by
  apply ByteArray.ext
  rw [← Array.toList_inj]
  simp [ByteArray.data_append]
theorem size_data (x : ByteArray) : x.size = x.data.toList.length := (Array.length_toList (xs := x.data)).symm
theorem binS_sound {op : BinOp} {t : TypeId} {xo yo : Operand} {x y u : Value} (hs : binS P op t x y = some u) (n : Nat) (w : World) : ((do eqGuard op t xo yo (ren r x) (ren r y); binOp op t (ren r x) (ren r y)) : Sem Value).run P w = .ok (ren r u) w ∧ Lt n u := by
  unfold binS at hs
  split at hs
  · rename_i k a k' b
    rw [Sem.run_bind, run_eqGuard_not (by simp [ren]) (by simp [ren]) w]
    simp only [Result.andThen_ok, ren]
    have hsh : shiftS op k a b = some u → (op = .shl ∨ op = .shr) → (binOp op t (.int k a) (.int k' b)).run P w = .ok (ren r u) w ∧ Lt n u := fun hs ho => by
      unfold shiftS at hs
      split at hs
      · cases hs
      · rename_i hb
        rcases ho with rfl | rfl <;> (cases hs; exact ⟨by (first | rw [show binOp .shl t (.int k a) (.int k' b) = Op.shift .shl k a k' b from rfl] | rw [show binOp .shr t (.int k a) (.int k' b) = Op.shift .shr k a k' b from rfl]); unfold Op.shift; rw [if_neg hb]; rfl, by simp [Lt]⟩)
    split at hs
    · exact hsh hs (.inl rfl)
    · exact hsh hs (.inr rfl)
    · rename_i h1 h2
      split at hs
      case isFalse => cases hs
      rename_i hk
      subst hk
      unfold intS at hs
      split at hs
      all_goals first
        | (cases hs; exact ⟨by unfold binOp; simp only [ne_eq, not_true_eq_false, if_false]; rfl, by simp [Lt]⟩)
        | (split at hs; cases hs; rename_i hb; cases hs; exact ⟨by unfold binOp; simp only [ne_eq, not_true_eq_false, if_false]; unfold Op.intDiv; rw [if_neg hb]; rfl, by simp [Lt]⟩)
        | cases hs
  · rename_i a b
    rw [Sem.run_bind, run_eqGuard_not (by simp [ren]) (by simp [ren]) w]
    simp only [Result.andThen_ok, ren]
    have eop : binOp op t (.string a) (.string b) = Op.stringOp op a b := by cases op <;> rfl
    rw [eop]
    unfold strS at hs
    split at hs
    · cases hc : Nat.ble (a.data.toList.length + b.data.toList.length) 4611686018427387904 with
      | false => rw [hc] at hs; cases hs
      | true =>
        rw [hc, cond_true] at hs
        cases hs
        have hle := Nat.le_of_ble_eq_true hc
        have hn : ¬ (((a.size + b.size : Nat) : Int) > IntKind.i64.max) := by
          rw [size_data, size_data]
          have : IntKind.i64.max = 9223372036854775807 := by decide
          omega
        refine ⟨?_, by simp [Lt]⟩
        unfold Op.stringOp
        simp only [hn, if_false, ren, cat_data]
        rfl
    all_goals first
      | (cases hs; exact ⟨by unfold Op.stringOp; (try simp only [strEq_beq]); (try simp only [ByteArray.toList_eq]); rfl, by simp [Lt]⟩)
      | cases hs
  · split at hs
    · split at hs
      case h_2 => cases hs
      rename_i b hb
      cases hs
      rw [Sem.run_bind, (eqS_sound (r := r) hb w).1]
      exact ⟨by rw [Result.andThen_ok, (eqS_bin hb).1, Sem.run_bind, (eqS_sound (r := r) (op := .eql) (xo := xo) (yo := yo) hb w).2]; rfl, by simp [Lt]⟩
    · split at hs
      case h_2 => cases hs
      rename_i b hb
      cases hs
      rw [Sem.run_bind, (eqS_sound (r := r) hb w).1]
      exact ⟨by rw [Result.andThen_ok, (eqS_bin hb).2, Sem.run_bind, (eqS_sound (r := r) (op := .eql) (xo := xo) (yo := yo) hb w).2]; rfl, by simp [Lt]⟩
    · cases hs
end Go.Rn
/-
  A symbolic world: parts, slices, lengths. No condition.
-/
namespace Go.Rn
open Go.RowKit
set_option linter.unusedVariables false
set_option linter.unusedSimpArgs false
variable {P : Program} {G : Nat} {w0 : World} {r : Ren} {h : Tr SObj} {nx : Nat} {w : World}
noncomputable def unS (op : UnOp) (x : Value) : Option Value :=
  match op, x with
  | .neg, .int k n => some (.int k (k.wrap (0 - n)))
  | .not, .bool b => some (.bool (!b))
  | .xor, .int k n => some (.int k (k.wrap (BitVec.ofInt k.bits (if k.signed then -1 else k.max) ^^^ BitVec.ofInt k.bits n).toNat))
  | _, _ => none
theorem unS_sound {op : UnOp} {x u : Value} (hs : unS op x = some u) (n : Nat) (w : World) : (Op.unary op (ren r x)).run P w = .ok (ren r u) w ∧ Lt n u := by
  unfold unS at hs
  split at hs
  · cases hs; exact ⟨by simp only [ren]; rfl, by simp [Lt]⟩
  · cases hs; exact ⟨by simp only [ren]; rfl, by simp [Lt]⟩
  · cases hs; exact ⟨by simp only [ren]; rfl, by simp [Lt]⟩
  · cases hs
noncomputable def convS (P : Program) (src dst : TypeId) (x : Value) : Option Value :=
  match x with
  | .int _ n => match P.underlying src with
    | some _ => match P.underlying dst with
      | some (.int k) => some (.int k (k.wrap n))
      | _ => none
    | none => none
  | .string s => match P.underlying src with
    | some .string => match P.underlying dst with
      | some .string => some (.string s)
      | _ => none
    | _ => none
  | _ => none
theorem convS_sound {src dst : TypeId} {x u : Value} (hs : convS P src dst x = some u) (n : Nat) (w : World) : (convert src dst (ren r x)).run P w = .ok (ren r u) w ∧ Lt n u := by
  unfold convS at hs
  split at hs
  · split at hs
    case h_2 => cases hs
    rename_i d1 h1
    split at hs
    case h_2 => cases hs
    rename_i k h2
    cases hs
    refine ⟨?_, by simp [Lt]⟩
    simp only [ren, convert, Sem.run_bind, run_underlying h1, run_underlying h2, Result.andThen_ok, Conv.intToInt]
    rfl
  · split at hs
    case h_2 => cases hs
    rename_i h1
    split at hs
    case h_2 => cases hs
    rename_i h2
    cases hs
    refine ⟨?_, by simp [Lt]⟩
    simp only [ren, convert, Sem.run_bind, run_underlying h1, run_underlying h2, Result.andThen_ok]
    rfl
  · cases hs
noncomputable def extractS (t : Value) (i : Nat) : Option Value :=
  match t with
  | .tuple vs => nth vs.toList i
  | _ => none
theorem extractS_sound {t u : Value} {i : Nat} (ht : Lt nx t) (hs : extractS t i = some u) (w : World) : (Instr.extract (ren r t) i).run P w = .ok (ren r u) w ∧ Lt nx u := by
  unfold extractS at hs
  split at hs
  case h_2 => cases hs
  rename_i vs
  rw [nth_eq] at hs
  refine ⟨?_, by
    simp only [Lt, LtA_iff] at ht
    exact ht u (List.mem_of_getElem? hs)⟩
  have e : (renA r vs)[i]? = some (ren r u) := by
    rw [← Array.getElem?_toList, toList_ren, renL_get, hs]; rfl
  simp only [ren, Instr.extract, e]
  rfl
noncomputable def fieldAddrS (P : Program) (s : TypeId) (v : Value) (f : Nat) : Option Value :=
  match v with
  | .pointer (some ⟨b, o, none⟩) => match P.underlying s with
    | some (.struct fs) => match nth fs.toList f with
      | some fd => match P.info? fd.type with
        | some i => cond (Nat.beq i.size 0) none (some (.pointer (some ⟨b, o + fd.offset, none⟩)))
        | none => none
      | none => none
    | _ => none
  | _ => none
theorem add_none (b o n : Nat) : (⟨b, o, none⟩ : Addr).add n = ⟨b, o + n, none⟩ := Addr.add_mid b o n
theorem fieldAddrS_sound {s : TypeId} {v u : Value} {f : Nat} (hv : Lt nx v) (hs : fieldAddrS P s v f = some u) (w : World) : (Instr.fieldAt s (ren r v) f).run P w = .ok (ren r u) w ∧ Lt nx u := by
  unfold fieldAddrS at hs
  split at hs
  case h_2 => cases hs
  rename_i b o
  split at hs
  case h_2 => cases hs
  rename_i fs hu
  split at hs
  case h_2 => cases hs
  rename_i fd hf
  split at hs
  case h_2 => cases hs
  rename_i i hi
  cases hb : Nat.beq i.size 0 with
  | true => rw [hb] at hs; cases hs
  | false =>
    rw [hb, cond_false] at hs
    cases hs
    have hsz : ¬ i.size = 0 := Nat.ne_of_beq_eq_false hb
    rw [nth_eq, Array.getElem?_toList] at hf
    refine ⟨?_, by simpa [Lt] using hv⟩
    simp only [ren, Ren.addr, Instr.fieldAt, Sem.run_bind, run_underlying hu, Result.andThen_ok, hf, Instr.sureAddr, Sem.run_pure, fieldPlace, run_size hi, hsz, if_false, add_none]
noncomputable def indexAddrS (P : Program) (t : TypeId) (x i : Value) : Option Value :=
  match i with
  | .int _ (.ofNat i) => match P.underlying t with
    | some (.slice e) => match x with
      | .slice (some ⟨b, o, none⟩) len _ => match P.info? e with
        | some j => cond (Nat.blt i len) (some (.pointer (some ⟨b, o + i * j.size, none⟩))) none
        | none => none
      | _ => none
    | some (.array len e) => match x with
      | .pointer (some ⟨b, o, none⟩) => match P.info? e with
        | some j => cond (Nat.blt i len) (some (.pointer (some ⟨b, o + i * j.size, none⟩))) none
        | none => none
      | _ => none
    | _ => none
  | _ => none
theorem blt_lt {a b : Nat} (h : Nat.blt a b = true) : a < b := Nat.le_of_ble_eq_true h
theorem indexAddrS_sound {t : TypeId} {x i u : Value} (hx : Lt nx x) (hs : indexAddrS P t x i = some u) (w : World) : (Instr.indexAt t (ren r x) (ren r i)).run P w = .ok (ren r u) w ∧ Lt nx u := by
  unfold indexAddrS at hs
  split at hs
  case h_2 => cases hs
  rename_i k n
  split at hs
  · rename_i e hu
    split at hs
    case h_2 => cases hs
    rename_i b o len cp
    split at hs
    case h_2 => cases hs
    rename_i j hj
    cases hb : Nat.blt n len with
    | false => rw [hb] at hs; cases hs
    | true =>
      rw [hb, cond_true] at hs
      cases hs
      have hlt := blt_lt hb
      have hc : (0 : Int) ≤ Int.ofNat n ∧ Int.ofNat n < (len : Int) := ⟨Int.natCast_nonneg n, Int.ofNat_lt.2 hlt⟩
      refine ⟨?_, by simp only [Lt] at hx ⊢; exact hx.1⟩
      simp only [ren, Ren.addr, Instr.indexAt, Sem.run_bind, asIntOf, Sem.run_pure, Result.andThen_ok, run_underlying hu, hc, and_self, if_true, run_size hj, add_none]
      rfl
  · rename_i len e hu
    split at hs
    case h_2 => cases hs
    rename_i b o
    split at hs
    case h_2 => cases hs
    rename_i j hj
    cases hb : Nat.blt n len with
    | false => rw [hb] at hs; cases hs
    | true =>
      rw [hb, cond_true] at hs
      cases hs
      have hlt := blt_lt hb
      have hc : (0 : Int) ≤ Int.ofNat n ∧ Int.ofNat n < (len : Int) := ⟨Int.natCast_nonneg n, Int.ofNat_lt.2 hlt⟩
      refine ⟨?_, by simpa [Lt] using hx⟩
      simp only [ren, Ren.addr, Instr.indexAt, Sem.run_bind, asIntOf, Sem.run_pure, Result.andThen_ok, run_underlying hu, Instr.sureAddr, hc, and_self, if_true, run_size hj, add_none]
      rfl
  · cases hs
noncomputable def partS (P : Program) (t : TypeId) (cs : List Value) (off : Nat) : Option Value :=
  match P.underlying t with
  | some d => cond d.isRow
      (match P.info? t with
        | some i => some (.agg ((cs.drop off).take i.size).toArray)
        | none => none)
      (nth cs off)
  | none => none
theorem partS_sound {t : TypeId} {cs : Array Value} {off : Nat} {u : Value} (hc : LtL nx cs.toList) (hs : partS P t cs.toList off = some u) (w : World) : (part t (renA r cs) off).run P w = .ok (ren r u) w ∧ Lt nx u := by
  unfold partS at hs
  split at hs
  case h_2 => cases hs
  rename_i d hd
  have hagg : ∀ b, d.isRow = b → (isAgg t).run P w = .ok b w := fun b hb => by
    unfold isAgg
    rw [Sem.run_bind, run_underlying hd w]
    cases d <;> simp_all
  cases hr : d.isRow with
  | true =>
    rw [hr, cond_true] at hs
    split at hs
    case h_2 => cases hs
    rename_i i hi
    cases hs
    refine ⟨?_, by simp only [Lt, LtA_iff]; exact (LtL_iff nx _).1 (hc.sub fun v hv => List.mem_of_mem_drop (List.mem_of_mem_take hv))⟩
    simp only [part, Sem.run_bind, hagg _ hr, Result.andThen_ok, if_true, run_size hi, Sem.run_pure]
    congr 1
    simp only [ren]
    congr 1
    rw [← Array.toList_inj]
    simp [toList_ren, renL_drop, renL_take, renA, List.extract_eq_take_drop, Nat.add_sub_cancel_left]
  | false =>
    rw [hr, cond_false, nth_eq] at hs
    refine ⟨?_, hc.get hs⟩
    have e : (renA r cs)[off]? = some (ren r u) := by rw [← Array.getElem?_toList, toList_ren, renL_get, hs]; rfl
    simp only [part, Sem.run_bind, hagg _ hr, Result.andThen_ok, Bool.false_eq_true, if_false, e, Sem.run_pure]
noncomputable def indexS (P : Program) (t : TypeId) (x i : Value) : Option Value :=
  match i with
  | .int _ (.ofNat i) => match x with
    | .string s => match P.underlying t with
      | some .string => match nth s.data.toList i with
        | some b => some (.int .u8 b.toNat)
        | none => none
      | _ => none
    | .agg cs => match P.underlying t with
      | some (.array len e) => match P.info? e with
        | some j => cond (Nat.blt i len) (partS P e cs.toList (i * j.size)) none
        | none => none
      | _ => none
    | _ => none
  | _ => none
theorem get_str (s : ByteArray) (i : Nat) : s[i]? = s.data.toList[i]? := by
  rw [Array.getElem?_toList]
  by_cases hi : i < s.size
  · rw [getElem?_pos s i hi, getElem?_pos s.data i hi]; rfl
  · rw [getElem?_neg s i hi, getElem?_neg s.data i hi]
theorem indexS_sound {t : TypeId} {x i u : Value} (hx : Lt nx x) (hs : indexS P t x i = some u) (w : World) : (Instr.index t (ren r x) (ren r i)).run P w = .ok (ren r u) w ∧ Lt nx u := by
  unfold indexS at hs
  split at hs
  case h_2 => cases hs
  rename_i k n
  split at hs
  · rename_i s
    split at hs
    case h_2 => cases hs
    rename_i hu
    split at hs
    case h_2 => cases hs
    rename_i b hb
    cases hs
    rw [nth_eq] at hb
    refine ⟨?_, by simp [Lt]⟩
    have h0 : (0 : Int) ≤ Int.ofNat n := Int.natCast_nonneg n
    have e : s[(Int.ofNat n).toNat]? = some b := (get_str s n).trans hb
    simp only [ren, Instr.index, Sem.run_bind, asIntOf, Sem.run_pure, Result.andThen_ok, run_underlying hu, h0, if_true, e]
  · rename_i cs
    split at hs
    case h_2 => cases hs
    rename_i len e hu
    split at hs
    case h_2 => cases hs
    rename_i j hj
    cases hb : Nat.blt n len with
    | false => rw [hb] at hs; cases hs
    | true =>
      rw [hb, cond_true] at hs
      have hlt := blt_lt hb
      have hc : (0 : Int) ≤ Int.ofNat n ∧ Int.ofNat n < (len : Int) := ⟨Int.natCast_nonneg n, Int.ofNat_lt.2 hlt⟩
      simp only [Lt, LtA_iff] at hx
      obtain ⟨p1, p2⟩ := partS_sound (P := P) (r := r) ((LtL_iff nx _).2 hx) hs w
      refine ⟨?_, p2⟩
      simp only [ren, Instr.index, Sem.run_bind, asIntOf, Sem.run_pure, Result.andThen_ok, run_underlying hu, hc, and_self, if_true, run_size hj]
      exact p1
  · cases hs
noncomputable def fieldS (P : Program) (t : TypeId) (x : Value) (f : Nat) : Option Value :=
  match x with
  | .agg cs => match P.underlying t with
    | some (.struct fs) => match nth fs.toList f with
      | some fd => partS P fd.type cs.toList fd.offset
      | none => none
    | _ => none
  | _ => none
theorem fieldS_sound {t : TypeId} {x u : Value} {f : Nat} (hx : Lt nx x) (hs : fieldS P t x f = some u) (w : World) : (Instr.field t (ren r x) f).run P w = .ok (ren r u) w ∧ Lt nx u := by
  unfold fieldS at hs
  split at hs
  case h_2 => cases hs
  rename_i cs
  split at hs
  case h_2 => cases hs
  rename_i fs hu
  split at hs
  case h_2 => cases hs
  rename_i fd hf
  rw [nth_eq, Array.getElem?_toList] at hf
  simp only [Lt, LtA_iff] at hx
  obtain ⟨p1, p2⟩ := partS_sound (P := P) (r := r) ((LtL_iff nx _).2 hx) hs w
  refine ⟨?_, p2⟩
  simp only [ren, Instr.field, Sem.run_bind, run_underlying hu, Result.andThen_ok, hf, asAgg, Sem.run_pure]
  exact p1
/-- A bound of a slice: a number that is there. -/
noncomputable def boundS (d : Nat) : Option Value → Option Nat
  | none => some d
  | some (.int _ (.ofNat n)) => some n
  | _ => none
noncomputable def sliceS (P : Program) (h : Tr SObj) (t : TypeId) (x : Value) (lo hi : Option Value) : Option Value :=
  match x with
  | .string s => match P.underlying t with
    | some .string => match boundS 0 lo, boundS s.data.toList.length hi with
      | some l, some m => cond (Nat.ble l m && Nat.ble m s.data.toList.length) (some (.string ⟨((s.data.toList.drop l).take (m - l)).toArray⟩)) none
      | _, _ => none
    | _ => none
  | .slice (some ⟨b, o, none⟩) len cap => match P.underlying t with
    | some (.slice e) => match P.info? e with
      | some i => match boundS 0 lo, boundS len hi with
        | some l, some m => cond (Nat.ble l m)
            (cond (Nat.blt cap capB)
              (cond (Nat.ble m cap && Nat.blt (cap - l) capB) (some (.slice (some ⟨b, (cond (Nat.beq cap l) o (o + l * i.size)), none⟩) (m - l) (cap - l))) none)
              (match h.get b with
                | some (.cells c _ opn) => cond (Nat.beq ((cap - capB) / 65536) b && Nat.ble (((cap - capB) % 65536 + m) * opn) c.length && Nat.blt 0 opn && Nat.ble m len)
                    (cond (Nat.beq l 0) (some (.slice (some ⟨b, o, none⟩) m cap))
                      (cond (Nat.blt l m && Nat.blt ((cap - capB) % 65536 + l) 65536) (some (.slice (some ⟨b, o + l * i.size, none⟩) (m - l) (cap + l)))
                        (cond (Nat.beq l m && Nat.blt ((cap - capB) % 65536 + l) 65536 && Nat.blt 0 i.size && Nat.blt i.size 1048576 && Nat.beq o ((cap - capB) % 65536 * i.size)) (some (.slice (some ⟨b, o, some (l * 1048576 + i.size)⟩) 0 (cap + l))) none))) none
                | _ => none)) none
        | _, _ => none
      | none => none
    | _ => none
  | .slice none n c => match P.underlying t with
    | some (.slice e) => match P.info? e with
      | some i => match boundS 0 lo, boundS n hi with
        | some l, some m => cond (Nat.ble l m && Nat.ble m c && Nat.blt c capB) (some (.slice none (m - l) (c - l))) none
        | _, _ => none
      | none => none
    | _ => none
  | _ => none
theorem boundS_len {d n : Nat} {o : Option Value} (hb : boundS d o = some n) : (o = none ∧ n = d) ∨ ∃ k, o = some (.int k (.ofNat n)) := by
  unfold boundS at hb
  split at hb
  · cases hb; exact .inl ⟨rfl, rfl⟩
  · cases hb; exact .inr ⟨_, rfl⟩
  · cases hb
theorem run_bound (k : IntKind) (n y : Nat) (code : BoundsCode) (hn : n ≤ y) (w : World) : (Instr.sliceBound (.int k (n : Int)) y code).run P w = .ok n w := by
  have hc : (0 : Int) ≤ (n : Int) ∧ (n : Int) ≤ (y : Int) := ⟨Int.natCast_nonneg n, Int.ofNat_le.2 hn⟩
  simp only [Instr.sliceBound, asIntOf, Sem.run_bind, Sem.run_pure, Result.andThen_ok, hc, and_self, if_true]
  rfl
theorem run_bounds {isS : Bool} {len cap l m : Nat} {lo hi : Option Value} (h1 : boundS 0 lo = some l) (h2 : boundS len hi = some m) (hlm : l ≤ m) (hm : m ≤ cap) (w : World) : (Instr.sliceBounds isS len cap (lo.map (ren r)) (hi.map (ren r)) none).run P w = .ok (l, m, cap) w := by
  unfold Instr.sliceBounds
  rcases boundS_len h1 with ⟨rfl, rfl⟩ | ⟨k, rfl⟩ <;> rcases boundS_len h2 with ⟨rfl, rfl⟩ | ⟨k', rfl⟩
  · simp
  · simp [ren, run_bound _ _ _ _ hm]
  · simp [ren, run_bound _ _ _ _ hlm]
  · simp [ren, run_bound _ _ _ _ hlm, run_bound _ _ _ _ hm]
theorem extract_str (s : ByteArray) (l m : Nat) (hlm : l ≤ m) (hm : m ≤ s.data.toList.length) : s.extract l m = ⟨((s.data.toList.drop l).take (m - l)).toArray⟩ := by
  apply ByteArray.ext
  rw [← Array.toList_inj]
  simp [ByteArray.data_extract, List.extract_eq_take_drop]
theorem sliceS_sound (D : Den G w0 r h nx w) {t : TypeId} {x u : Value} {lo hi : Option Value} (hx : Lt nx x) (hs : sliceS P h t x lo hi = some u) : (Instr.sliceAt t (ren r x) (lo.map (ren r)) (hi.map (ren r)) none).run P w = .ok (ren r u) w ∧ Lt nx u := by
  unfold sliceS at hs
  split at hs
  · rename_i s
    split at hs
    case h_2 => cases hs
    rename_i hu
    split at hs
    case h_2 => cases hs
    rename_i l m h1 h2
    cases hb : (Nat.ble l m && Nat.ble m s.data.toList.length) with
    | false => rw [hb] at hs; cases hs
    | true =>
      rw [hb, cond_true] at hs
      cases hs
      simp only [Bool.and_eq_true] at hb
      have b1 := Nat.le_of_ble_eq_true hb.1
      have b2 := Nat.le_of_ble_eq_true hb.2
      refine ⟨?_, by simp [Lt]⟩
      rw [← size_data] at h2
      have hr := run_bounds (P := P) (r := r) (isS := false) (cap := s.size) h1 h2 b1 (by rw [size_data]; exact b2) w
      simp only [ren, Instr.sliceAt, Sem.run_bind, run_underlying hu, Result.andThen_ok, Instr.slice, Option.isSome_none, Bool.false_eq_true, if_false, Sem.run_pure, hr, extract_str s l m b1 b2]
  · rename_i b o len cap
    split at hs
    case h_2 => cases hs
    rename_i e hu
    split at hs
    case h_2 => cases hs
    rename_i i hi
    split at hs
    case h_2 => cases hs
    rename_i l m h1 h2
    cases hb : Nat.ble l m with
    | false => rw [hb] at hs; cases hs
    | true =>
      rw [hb, cond_true] at hs
      have b1 := Nat.le_of_ble_eq_true hb
      simp only [Lt] at hx
      cases hcap : Nat.blt cap capB with
      | true =>
        rw [hcap, cond_true] at hs
        cases hc : (Nat.ble m cap && Nat.blt (cap - l) capB) with
        | false => rw [hc] at hs; cases hs
        | true =>
          rw [hc, cond_true] at hs
          cases hs
          simp only [Bool.and_eq_true] at hc
          have b2 := Nat.le_of_ble_eq_true hc.1
          have b3 := blt_lt hcap
          have hr := run_bounds (P := P) (r := r) (isS := true) h1 h2 b1 b2 w
          refine ⟨?_, by simp only [Lt]; exact ⟨hx.1, fun hq => absurd (blt_lt hc.2) (by omega)⟩⟩
          simp only [ren, Ren.addr, Instr.sliceAt, Sem.run_bind, run_underlying hu, Result.andThen_ok, Instr.slice, capOf_small r b3, hr, run_size hi, Sem.run_pure, capOf_small r (blt_lt hc.2)]
          congr 2
          by_cases hcl : cap = l
          · have : Nat.beq cap l = true := by rw [hcl]; simp
            rw [if_pos hcl, this]; rfl
          · have : Nat.beq cap l = false := by cases hq : Nat.beq cap l with
              | false => rfl
              | true => exact absurd (Nat.eq_of_beq_eq_true hq) hcl
            rw [if_neg hcl, this, Option.map_some, add_none]; rfl
      | false =>
        rw [hcap, cond_false] at hs
        have b3 : capB ≤ cap := by
          have := hcap
          rcases Nat.lt_or_ge cap capB with hq | hq
          · have : Nat.blt cap capB = true := Nat.ble_eq_true_of_le hq
            rw [this] at hcap; cases hcap
          · exact hq
        split at hs
        case h_2 => cases hs
        rename_i c t' opn hob
        cases hc : (Nat.beq ((cap - capB) / 65536) b && Nat.ble (((cap - capB) % 65536 + m) * opn) c.length && Nat.blt 0 opn && Nat.ble m len) with
        | false => rw [hc] at hs; cases hs
        | true =>
          rw [hc, cond_true] at hs
          simp only [Bool.and_eq_true] at hc
          obtain ⟨⟨⟨c1, c2⟩, c3⟩, c4⟩ := hc
          have c1 : (cap - capB) / 65536 = b := Nat.eq_of_beq_eq_true c1
          have c2 := Nat.le_of_ble_eq_true c2
          have c3 := blt_lt c3
          obtain ⟨rest, hh, hr⟩ := D.obj b _ hob
          rw [if_neg (by omega)] at hr
          have hcapOf : r.capOf cap = r.cap b - (cap - capB) % 65536 := by unfold Ren.capOf; rw [if_neg (by omega), c1]
          have hfit : (cap - capB) % 65536 + m ≤ r.cap b := Nat.le_of_mul_le_mul_right (by rw [← hr.1]; omega) c3
          have hmc : m ≤ r.capOf cap := by rw [hcapOf]; omega
          have hrun := run_bounds (P := P) (r := r) (isS := true) h1 h2 b1 hmc w
          cases hl : Nat.beq l 0 with
          | true =>
            rw [hl, cond_true] at hs
            cases hs
            have hl0 : l = 0 := Nat.eq_of_beq_eq_true hl
            subst hl0
            refine ⟨?_, by simp only [Lt]; exact hx⟩
            simp only [ren, Ren.addr, Instr.sliceAt, Sem.run_bind, run_underlying hu, Result.andThen_ok, Instr.slice, hrun, run_size hi, Sem.run_pure, Nat.sub_zero, Option.map_some, Nat.zero_mul, add_none, Nat.add_zero, ite_self]
          | false =>
            rw [hl, cond_false] at hs
            cases hd : (Nat.blt l m && Nat.blt ((cap - capB) % 65536 + l) 65536) with
            | false =>
              rw [hd, cond_false] at hs
              cases hx2 : (Nat.beq l m && Nat.blt ((cap - capB) % 65536 + l) 65536 && Nat.blt 0 i.size && Nat.blt i.size 1048576 && Nat.beq o ((cap - capB) % 65536 * i.size)) with
              | false => rw [hx2] at hs; cases hs
              | true =>
                rw [hx2, cond_true] at hs
                cases hs
                simp only [Bool.and_eq_true] at hx2
                obtain ⟨⟨⟨⟨k1, k2⟩, k3⟩, k4⟩, k5⟩ := hx2
                have k1 : l = m := Nat.eq_of_beq_eq_true k1
                have k2 := blt_lt k2
                have k3 := blt_lt k3
                have k4 := blt_lt k4
                have k5 : o = (cap - capB) % 65536 * i.size := Nat.eq_of_beq_eq_true k5
                subst k1
                have q1 : (cap + l - capB) / 65536 = b := by omega
                have q2 : (cap + l - capB) % 65536 = (cap - capB) % 65536 + l := by omega
                have hcap2 : r.capOf (cap + l) = r.capOf cap - l := by
                  rw [hcapOf]
                  unfold Ren.capOf
                  rw [if_neg (by omega), q1, q2]; omega
                have m1 : (l * 1048576 + i.size) % 1048576 = i.size := by rw [Nat.mul_add_mod_self_right, Nat.mod_eq_of_lt k4]
                have m2 : (l * 1048576 + i.size) / 1048576 = l := by omega
                have m3 : o / i.size = (cap - capB) % 65536 := by rw [k5, Nat.mul_div_cancel _ k3]
                refine ⟨?_, by simp only [Lt]; exact ⟨hx.1, fun _ => by rw [q1]; exact hx.1⟩⟩
                have haddr : r.addr ⟨b, o, some (l * 1048576 + i.size)⟩ = if r.capOf cap = l then ⟨r.blk b, o, none⟩ else ⟨r.blk b, o + l * i.size, none⟩ := by
                  unfold Ren.addr
                  simp only
                  rw [m1, m2, m3, ← hcapOf]
                  split <;> rfl
                clear m1 m2 m3
                generalize (⟨b, o, some (l * 1048576 + i.size)⟩ : Addr) = ad at haddr
                simp only [ren, haddr, Ren.addr_none, Instr.sliceAt, Sem.run_bind, run_underlying hu, Result.andThen_ok, Instr.slice, hrun, run_size hi, Sem.run_pure, Option.map_some, add_none, hcap2, Nat.sub_self]
                by_cases hq : r.capOf cap = l
                · rw [if_pos hq, if_pos hq]
                · rw [if_neg hq, if_neg hq]
            | true =>
              rw [hd, cond_true] at hs
              cases hs
              simp only [Bool.and_eq_true] at hd
              have d1 := blt_lt hd.1
              have d2 := blt_lt hd.2
              have hne : ¬ r.capOf cap = l := by omega
              have q1 : (cap + l - capB) / 65536 = b := by omega
              have q2 : (cap + l - capB) % 65536 = (cap - capB) % 65536 + l := by omega
              have hcap2 : r.capOf (cap + l) = r.capOf cap - l := by
                rw [hcapOf]
                unfold Ren.capOf
                rw [if_neg (by omega), q1, q2]; omega
              refine ⟨?_, by simp only [Lt]; exact ⟨hx.1, fun _ => by rw [q1]; exact hx.1⟩⟩
              simp only [ren, Ren.addr, Instr.sliceAt, Sem.run_bind, run_underlying hu, Result.andThen_ok, Instr.slice, hrun, run_size hi, Sem.run_pure, hne, if_false, Option.map_some, add_none, hcap2]
  · rename_i n c
    split at hs
    case h_2 => cases hs
    rename_i e hu
    split at hs
    case h_2 => cases hs
    rename_i i hi
    split at hs
    case h_2 => cases hs
    rename_i l m h1 h2
    cases hc : (Nat.ble l m && Nat.ble m c && Nat.blt c capB) with
    | false => rw [hc] at hs; cases hs
    | true =>
      rw [hc, cond_true] at hs
      cases hs
      simp only [Bool.and_eq_true] at hc
      have hr := run_bounds (P := P) (r := r) (isS := true) h1 h2 (Nat.le_of_ble_eq_true hc.1.1) (Nat.le_of_ble_eq_true hc.1.2) w
      refine ⟨?_, by simp [Lt]⟩
      simp only [ren, Instr.sliceAt, Sem.run_bind, run_underlying hu, Result.andThen_ok, Instr.slice, hr, run_size hi, Sem.run_pure, Option.map_none, ite_self]
  · cases hs
end Go.Rn
/-
  A symbolic world: maps, append, lengths. No condition.
-/
namespace Go.Rn
open Go.RowKit Go.MapKept
set_option linter.unusedVariables false
set_option linter.unusedSimpArgs false
variable {P : Program} {G : Nat} {w0 : World} {r : Ren} {h : Tr SObj} {nx : Nat} {w : World}
/-! ### keys -/
/-- May this be a key? -/
noncomputable def keyOk (P : Program) (kt : TypeId) (k : Value) : Bool := P.keyTypeAt 12 kt && k.formed P kt && bare k && (P.keyLits 12 kt k.cells.toList).isSome
noncomputable def sameS (d : TypeDesc) (k k' : Value) : Option Bool :=
  match d, k, k' with
  | .int _, .int j a, .int j' b => if j = j' then some (a == b) else none
  | .string, .string a, .string b => some (strEq a.data.toList b.data.toList)
  | .bool, .bool a, .bool b => some (a == b)
  | _, _, _ => none
noncomputable def findNowS (d : TypeDesc) (k : Value) (es : List (Value × Value)) : Nat → Option (Option (Nat × Value)) :=
  List.rec (motive := fun _ => Nat → Option (Option (Nat × Value))) (fun _ => some none) (fun e _ ih i => match sameS d k e.1 with
    | some true => some (some (i, e.2))
    | some false => ih (i + 1)
    | none => none) es
noncomputable def findAskS (P : Program) (kt : TypeId) (k : Value) (es : List (Value × Value)) : Nat → Option (Option (Nat × Value)) :=
  List.rec (motive := fun _ => Nat → Option (Option (Nat × Value))) (fun _ => some none) (fun e _ ih i => match k, e.1 with
    | .agg xs, .agg ys => match aggEq P kt xs ys with
      | some true => some (some (i, e.2))
      | some false => ih (i + 1)
      | none => none
    | _, _ => none) es
noncomputable def findS (P : Program) (kt : TypeId) (k : Value) (es : List (Value × Value)) : Option (Option (Nat × Value)) :=
  match P.underlying kt with
  | some (.struct _) => findAskS P kt k es 0
  | some (.array _ _) => findAskS P kt k es 0
  | some d => findNowS d k es 0
  | none => none
theorem findNowS_cons (d : TypeDesc) (k : Value) (e : Value × Value) (es : List (Value × Value)) (i : Nat) : findNowS d k (e :: es) i = match sameS d k e.1 with
    | some true => some (some (i, e.2))
    | some false => findNowS d k es (i + 1)
    | none => none := rfl
theorem findAskS_cons (kt : TypeId) (k : Value) (e : Value × Value) (es : List (Value × Value)) (i : Nat) : findAskS P kt k (e :: es) i = match k, e.1 with
    | .agg xs, .agg ys => match aggEq P kt xs ys with
      | some true => some (some (i, e.2))
      | some false => findAskS P kt k es (i + 1)
      | none => none
    | _, _ => none := rfl
theorem ba_beq (a b : ByteArray) : (a == b) = strEq a.data.toList b.data.toList := by
  rw [Bool.eq_iff_iff, strEq_iff, MapKept.bytes_beq]
  constructor
  · intro e; rw [e]
  · intro e; exact ByteArray.ext (Array.toList_inj.1 e)
theorem sameS_ren {d : TypeDesc} {k k' : Value} {b : Bool} (hs : sameS d k k' = some b) : Instr.sameNow d (ren r k) (ren r k') = some b := by
  unfold sameS at hs
  split at hs
  · split at hs
    · rename_i hj; subst hj; cases hs; simp [ren, Instr.sameNow]
    · cases hs
  · cases hs; simp only [ren, Instr.sameNow, ba_beq]
  · cases hs; simp only [ren, Instr.sameNow]
  · cases hs
def Like (r : Ren) (en : List MapEntry) (es : List (Value × Value)) : Prop := en.map (fun e => (e.key, e.val)) = es.map (fun e => (ren r e.1, ren r e.2))
theorem Like.cons {en : List MapEntry} {e : Value × Value} {es : List (Value × Value)} (hl : Like r en (e :: es)) : ∃ x rest, en = x :: rest ∧ x.key = ren r e.1 ∧ x.val = ren r e.2 ∧ Like r rest es := by
  cases en with
  | nil => simp [Like] at hl
  | cons x rest =>
    simp only [Like, List.map_cons, List.cons.injEq, Prod.mk.injEq] at hl
    exact ⟨x, rest, rfl, hl.1.1, hl.1.2, hl.2⟩
theorem findNowS_sound {d : TypeDesc} {k : Value} : ∀ (es : List (Value × Value)) (en : List MapEntry) (i : Nat) (res : Option (Nat × Value)), Like r en es → findNowS d k es i = some res → Instr.findNow d (ren r k) en i = some (res.map fun q => (q.1, ren r q.2))
  | [], en, i, res, hl, hs => by
    have : en = [] := by cases en with
      | nil => rfl
      | cons x l => simp [Like] at hl
    subst this
    have e : none = res := Option.some.inj hs
    subst e; rfl
  | e :: es, en, i, res, hl, hs => by
    obtain ⟨x, rest, rfl, hk, hv, hr⟩ := hl.cons
    rw [findNowS_cons] at hs
    unfold Instr.findNow
    rw [hk]
    split at hs
    · rename_i h1
      cases hs
      rw [sameS_ren h1, hv]; rfl
    · rename_i h1
      rw [sameS_ren h1]
      exact findNowS_sound es rest (i + 1) res hr hs
    · cases hs
theorem findAskS_sound {kt : TypeId} {k : Value} (w : World) : ∀ (es : List (Value × Value)) (en : List MapEntry) (i : Nat) (res : Option (Nat × Value)), Like r en es → findAskS P kt k es i = some res → (Instr.findAsking kt (ren r k) en i).run P w = .ok (res.map fun q => (q.1, ren r q.2)) w
  | [], en, i, res, hl, hs => by
    have : en = [] := by cases en with
      | nil => rfl
      | cons x l => simp [Like] at hl
    subst this
    have e : none = res := Option.some.inj hs
    subst e; rfl
  | e :: es, en, i, res, hl, hs => by
    obtain ⟨x, rest, rfl, hk, hv, hr⟩ := hl.cons
    rw [findAskS_cons] at hs
    split at hs
    case h_2 => cases hs
    rename_i xs ys hy
    rw [hy] at hk
    unfold Instr.findAsking
    split at hs
    · rename_i h1
      cases hs
      obtain ⟨e1, e2, e3, -⟩ := aggEq_sound h1 w
      rw [hk]
      simp only [ren, bareA_ren e2, bareA_ren e3, Sem.run_bind, e1, Result.andThen_ok, if_true, hv]
      rfl
    · rename_i h1
      obtain ⟨e1, e2, e3, -⟩ := aggEq_sound h1 w
      have ih := findAskS_sound w es rest (i + 1) res hr hs
      rw [hk]
      simp only [ren, bareA_ren e2, bareA_ren e3, Sem.run_bind, e1, Result.andThen_ok, Bool.false_eq_true, if_false] at ih ⊢
      exact ih
    · cases hs
theorem findS_sound {kt : TypeId} {k : Value} {es : List (Value × Value)} {en : List MapEntry} {res : Option (Nat × Value)} (hl : Like r en es) (hs : findS P kt k es = some res) (w : World) : (Instr.findKey kt (ren r k) en).run P w = .ok (res.map fun q => (q.1, ren r q.2)) w := by
  unfold findS at hs
  split at hs
  · rename_i fs hu
    rw [run_findKey_eq (P := P) (w := w) (k := kt) (by simp [hu])]
    exact findAskS_sound w es en 0 res hl hs
  · rename_i n e hu
    rw [run_findKey_eq (P := P) (w := w) (k := kt) (by simp [hu])]
    exact findAskS_sound w es en 0 res hl hs
  · rename_i d h1 h2 hu
    exact run_findKey hu (findNowS_sound es en 0 res hl hs)
  · cases hs
theorem keyOk_check {kt : TypeId} {k : Value} (hk : keyOk P kt k = true) (e : Bool) (w : World) : (Instr.checkKey e 10000 kt (ren r k)).run P w = .ok () w := by
  unfold keyOk at hk
  simp only [Bool.and_eq_true] at hk
  obtain ⟨⟨⟨c1, c2⟩, c3⟩, c4⟩ := hk
  obtain ⟨la, hla⟩ := Option.isSome_iff_exists.1 c4
  rw [bare_ren c3]
  have hch := run_checkKey_deep (P := P) e 9988 12 kt c1 w 12 k la c2 hla
  have e0 : (9988 + 12 : Nat) = 10000 := rfl
  rw [e0] at hch
  exact hch
theorem findS_get {es : List (Value × Value)} : ∀ {d : TypeDesc} {k : Value} {i j : Nat} {v : Value}, findNowS d k es i = some (some (j, v)) → ∃ e, e ∈ es ∧ e.2 = v := by
  induction es with
  | nil => intro d k i j v hs; cases hs
  | cons e es ih =>
    intro d k i j v hs
    rw [findNowS_cons] at hs
    split at hs
    · cases hs; exact ⟨e, by simp, rfl⟩
    · obtain ⟨x, hx, hv⟩ := ih hs; exact ⟨x, by simp [hx], hv⟩
    · cases hs
theorem findAsk_get {kt : TypeId} {k : Value} : ∀ {es : List (Value × Value)} {i j : Nat} {v : Value}, findAskS P kt k es i = some (some (j, v)) → ∃ e, e ∈ es ∧ e.2 = v
  | [], i, j, v, hs => by cases hs
  | e :: es, i, j, v, hs => by
    rw [findAskS_cons] at hs
    split at hs
    case h_2 => cases hs
    split at hs
    · cases hs; exact ⟨e, by simp, rfl⟩
    · obtain ⟨x, hx, hv⟩ := findAsk_get hs; exact ⟨x, by simp [hx], hv⟩
    · cases hs
theorem find_get {kt : TypeId} {k : Value} {es : List (Value × Value)} {j : Nat} {v : Value} (hs : findS P kt k es = some (some (j, v))) : ∃ e, e ∈ es ∧ e.2 = v := by
  unfold findS at hs
  split at hs
  · exact findAsk_get hs
  · exact findAsk_get hs
  · exact findS_get hs
  · cases hs
theorem map_at2 (D : Den G w0 r h nx w) {i : Nat} {es : List (Value × Value)} {bs : List Nat} {clock : Nat} (hi : h.get i = some (.map es bs clock)) : ∃ en, w.heap[r.blk i]? = some (.map en clock) ∧ Like r en.toList es ∧ en.toList.map (·.born) = bs := D.obj i _ hi
theorem map_at (D : Den G w0 r h nx w) {i : Nat} {es : List (Value × Value)} {bs : List Nat} {cl : Nat} (hi : h.get i = some (.map es bs cl)) : ∃ en clock, w.heap[r.blk i]? = some (.map en clock) ∧ Like r en.toList es := by
  obtain ⟨en, h1, h2, -⟩ := map_at2 D hi
  exact ⟨en, cl, h1, h2⟩
noncomputable def lookupS (P : Program) (h : Tr SObj) (t : TypeId) (m k : Value) (ok : Bool) : Option Value :=
  match P.underlying t with
  | some (.map kt e) => match P.info? e with
    | some i => match i.zero with
      | some z => cond (keyOk P kt k && bare z)
          (match (match m with
            | .map none => some []
            | .map (some id) => match h.get id with
              | some (.map es _ _) => some es
              | _ => none
            | _ => none : Option (List (Value × Value))) with
            | some es => match findS P kt k es with
              | some (some (_, v)) => some (cond ok (.tuple #[v, .bool true]) v)
              | some none => some (cond ok (.tuple #[z, .bool false]) z)
              | none => none
            | none => none) none
      | none => none
    | none => none
  | _ => none
theorem lookupS_sound (D : Den G w0 r h nx w) {t : TypeId} {m k u : Value} {ok : Bool} (hs : lookupS P h t m k ok = some u) : (Instr.lookup t (ren r m) (ren r k) ok).run P w = .ok (ren r u) w ∧ Lt nx u := by
  unfold lookupS at hs
  split at hs
  case h_2 => cases hs
  rename_i kt e hu
  split at hs
  case h_2 => cases hs
  rename_i i hi
  split at hs
  case h_2 => cases hs
  rename_i z hz
  cases hc : (keyOk P kt k && bare z) with
  | false => rw [hc] at hs; cases hs
  | true =>
    rw [hc, cond_true] at hs
    simp only [Bool.and_eq_true] at hc
    obtain ⟨hk, hb⟩ := hc
    split at hs
    case h_2 => cases hs
    rename_i es hes
    have hget : ∃ en : Array MapEntry, ((m = .map none ∧ en = #[]) ∨ ∃ id clock, m = .map (some id) ∧ w.heap[r.blk id]? = some (.map en clock)) ∧ Like r en.toList es ∧ ∀ q ∈ es, Lt nx q.2 := by
      split at hes
      · cases hes
        exact ⟨#[], .inl ⟨rfl, rfl⟩, by simp [Like], by simp⟩
      · rename_i id
        split at hes
        case h_2 => cases hes
        rename_i es' hid
        cases hes
        obtain ⟨en, clock, hh, hl⟩ := map_at D hid
        exact ⟨en, .inr ⟨id, clock, rfl, hh⟩, hl, fun q hq => ((D.lt id _ hid) q hq).2⟩
      · cases hes
    obtain ⟨en, hm, hl, hlt⟩ := hget
    have hz2 : ren r z = z := bare_ren hb
    have hch := fun b => keyOk_check (r := r) hk b w
    unfold Instr.lookup
    split at hs
    · rename_i j v hf
      have hlv : Lt nx v := by
        obtain ⟨q, hq, rfl⟩ := find_get hf
        exact hlt q hq
      have hfs := findS_sound (P := P) hl hf w
      cases hs
      refine ⟨?_, by cases ok <;> simp [Lt, LtA, LtL, hlv]⟩
      rcases hm with ⟨rfl, rfl⟩ | ⟨id, clock, rfl, hh⟩
      · simp only [ren, Sem.run_bind, run_underlying hu, Result.andThen_ok, Sem.run_pure, hch, hfs, Option.map_some]
        cases ok <;> simp [ren, renA, renL]
      · simp only [ren, Sem.run_bind, run_underlying hu, Result.andThen_ok, Sem.run_pure, MapKept.run_getObj_map hh, hch, hfs, Option.map_some]
        cases ok <;> simp [ren, renA, renL]
    · rename_i hf
      have hfs := findS_sound (P := P) hl hf w
      cases hs
      refine ⟨?_, by cases ok <;> simp [Lt, LtA, LtL, bare_lt hb]⟩
      rcases hm with ⟨rfl, rfl⟩ | ⟨id, clock, rfl, hh⟩
      · simp only [ren, Sem.run_bind, run_underlying hu, Result.andThen_ok, Sem.run_pure, hch, hfs, Option.map_none, run_zero hi hz]
        cases ok <;> simp [ren, renA, renL, hz2]
      · simp only [ren, Sem.run_bind, run_underlying hu, Result.andThen_ok, Sem.run_pure, MapKept.run_getObj_map hh, hch, hfs, Option.map_none, run_zero hi hz]
        cases ok <;> simp [ren, renA, renL, hz2]
    · cases hs
/-- A map is written. -/
noncomputable def mapUpdateS (P : Program) (G : Nat) (h : Tr SObj) (t : TypeId) (m k v : Value) : Option (Tr SObj) :=
  match P.underlying t with
  | some (.map kt _) => match m with
    | .map (some id) => match h.get id with
      | some (.map es bs cl) => cond (Nat.ble G id && keyOk P kt k)
          (match findS P kt k es with
            | some (some (i, _)) => match nth es i with
              | some e => cond (bare e.1 && Instr.sameBits 10000 e.1 k) (some (h.set id (.map (setN es i (k, v)) bs cl))) none
              | none => none
            | some none => some (h.set id (.map (es ++ [(k, v)]) (bs ++ [cl]) (cl + 1)))
            | none => none) none
      | _ => none
    | _ => none
  | _ => none
theorem Like.get {en : List MapEntry} {es : List (Value × Value)} (hl : Like r en es) {i : Nat} {e : Value × Value} (hi : es[i]? = some e) : ∃ x, en[i]? = some x ∧ x.key = ren r e.1 ∧ x.val = ren r e.2 := by
  have h1 := congrArg (fun l => l[i]?) hl
  simp only [List.getElem?_map, hi, Option.map_some] at h1
  cases hx : en[i]? with
  | none => rw [hx] at h1; cases h1
  | some x =>
    rw [hx] at h1
    simp only [Option.map_some, Option.some.injEq, Prod.mk.injEq] at h1
    exact ⟨x, rfl, h1.1, h1.2⟩
theorem Like.len {en : List MapEntry} {es : List (Value × Value)} (hl : Like r en es) : en.length = es.length := by
  have := congrArg List.length hl
  simpa using this
theorem mapUpdateS_sound (D : Den G w0 r h nx w) {t : TypeId} {m k v : Value} {h' : Tr SObj} (hlk : Lt nx k) (hlv : Lt nx v) (hs : mapUpdateS P G h t m k v = some h') : ∃ w', (Instr.mapUpdate t (ren r m) (ren r k) (ren r v)).run P w = .ok () w' ∧ Den G w0 r h' nx w' := by
  unfold mapUpdateS at hs
  split at hs
  case h_2 => cases hs
  rename_i kt e hu
  split at hs
  case h_2 => cases hs
  rename_i id
  split at hs
  case h_2 => cases hs
  rename_i es bs cl hid
  cases hc : (Nat.ble G id && keyOk P kt k) with
  | false => rw [hc] at hs; cases hs
  | true =>
    rw [hc, cond_true] at hs
    simp only [Bool.and_eq_true] at hc
    have hG := Nat.le_of_ble_eq_true hc.1
    have hk := hc.2
    have hbk : bare k = true := by
      unfold keyOk at hk
      simp only [Bool.and_eq_true] at hk
      exact hk.1.2
    obtain ⟨en, hh, hl, hbn⟩ := map_at2 D hid
    have hes : ObjLt nx (.map es bs cl) := D.lt id _ hid
    have hlo := D.low id hG (D.dom id (by rw [hid]; simp))
    have main : ∀ (en' : Array MapEntry) (clock' : Nat) (es' : List (Value × Value)) (bs' : List Nat), en'.toList.map (·.born) = bs' → Like r en'.toList es' → (∀ q ∈ es', Lt nx q.1 ∧ Lt nx q.2) → Den G w0 r (h.set id (.map es' bs' clock')) nx { w with heap := w.heap.setIfInBounds (r.blk id) (.map en' clock') } := fun en' clock' es' bs' hb' hl' hlt' => by
      obtain ⟨hs1, hs2⟩ := heap_set (o' := .map en' clock') hh
      refine D.change hid hG (D.bel.trans ⟨rfl, rfl, rfl, by simp, fun j hj => hs2 j (by omega)⟩) (by simp) (fun j hj => hs2 j hj) hlt' ⟨en', hs1, hl', hb'⟩
    unfold Instr.mapUpdate
    split at hs
    · rename_i i v0 hf
      split at hs
      case h_2 => cases hs
      rename_i e0 he0
      rw [nth_eq] at he0
      cases hc2 : (bare e0.1 && Instr.sameBits 10000 e0.1 k) with
      | false => rw [hc2] at hs; cases hs
      | true =>
        rw [hc2, cond_true] at hs
        simp only [Bool.and_eq_true] at hc2
        cases hs
        have hfs := findS_sound (P := P) hl hf w
        obtain ⟨x, hx, hxk, hxv⟩ := hl.get he0
        rw [Array.getElem?_toList] at hx
        have hkey : (Instr.keyThatStays (((en[i]?).map (·.key)).getD (ren r k)) (ren r k)).run P w = .ok (ren r k) w := by
          rw [hx, Option.map_some, Option.getD_some, hxk, bare_ren hc2.1, bare_ren hbk]
          simp [Instr.keyThatStays, hc2.2]
        refine ⟨{ w with heap := w.heap.setIfInBounds (r.blk id) (.map (en.modify i fun e => { e with key := ren r k, val := ren r v }) cl) }, ?_, ?_⟩
        · simp only [ren, Sem.run_bind, run_underlying hu, Result.andThen_ok, MapKept.run_getObj_map hh, keyOk_check hk, hfs, Option.map_some, hkey, MapKept.run_setObj_map _ hh]
        · rw [setN_eq]
          refine main _ _ _ _ ?_ ?_ fun q hq => ?_
          · rw [← hbn]
            apply List.ext_getElem?
            intro j
            simp only [List.getElem?_map, Array.getElem?_toList, Array.getElem?_modify]
            split
            · rename_i e; subst e; cases en[i]? <;> rfl
            · rfl
          · unfold Like
            apply List.ext_getElem?
            intro j
            simp only [List.getElem?_map, Array.getElem?_toList, Array.getElem?_modify, List.getElem?_set]
            have hj := congrArg (fun l => l[j]?) hl
            simp only [List.getElem?_map, Array.getElem?_toList] at hj
            by_cases hij : i = j
            · subst hij
              have hlt : i < es.length := (List.getElem?_eq_some_iff.1 he0).1
              simp [hx, hlt]
            · simp only [hij, if_false]; exact hj
          · rcases List.mem_or_eq_of_mem_set hq with hq | rfl
            · exact hes q hq
            · exact ⟨hlk, hlv⟩
    · rename_i hf
      cases hs
      have hfs := findS_sound (P := P) hl hf w
      refine ⟨{ w with heap := w.heap.setIfInBounds (r.blk id) (.map (en.push { key := ren r k, val := ren r v, born := cl }) (cl + 1)) }, ?_, ?_⟩
      · simp only [ren, Sem.run_bind, run_underlying hu, Result.andThen_ok, MapKept.run_getObj_map hh, keyOk_check hk, hfs, Option.map_none, MapKept.run_setObj_map _ hh]
      · refine main _ _ _ _ ?_ ?_ fun q hq => ?_
        · rw [Array.toList_push, List.map_append, hbn]; rfl
        · unfold Like at hl ⊢
          rw [Array.toList_push, List.map_append, List.map_append, hl]; rfl
        · rcases List.mem_append.1 hq with hq | hq
          · exact hes q hq
          · rw [List.mem_singleton.1 hq]; exact ⟨hlk, hlv⟩
    · cases hs
/-- A map that is made. -/
theorem makeMapS_sound (D : Den G w0 r h nx w) (hbig : Nat.blt (nx + 1) capB = true) (t : TypeId) : Made G w0 r nx w (.map (some nx)) (h.set nx (.map [] [] 0)) (nx + 1) ((Instr.makeMap t none).run P w) := by
  refine ⟨Den.newR r nx w.heap.size 0, w.alloc (.map #[] 0), ?_, Den.newR_agree _ _ _ _, Nat.le_succ _, by simp [Lt], ?_⟩
  · simp [Instr.makeMap, newObj, Sem.run, ren, Den.newR]
  · refine D.add ((Below.refl _ _).alloc (Nat.le_refl _) _) (Nat.le_refl _) (by simp) (Nat.le_of_ble_eq_true hbig) (by intro e he; cases he) ⟨#[], ?_, rfl, rfl⟩
    have e : (Den.newR r nx w.heap.size 0).blk nx = w.heap.size := by simp [Den.newR]
    rw [e]
    show (w.heap.push _)[w.heap.size]? = _
    simp
end Go.Rn
/-
  A symbolic world: append; one operation. No condition.
-/
namespace Go.Rn
open Go.RowKit Go.MapKept
set_option linter.unusedVariables false
set_option linter.unusedSimpArgs false
variable {P : Program} {G : Nat} {w0 : World} {r : Ren} {h : Tr SObj} {nx : Nat} {w : World}
/-- A slice of the run's own, at its row's head: its block, its length, its elements' cells; a capacity that is known fills the row. -/
noncomputable def rowS (G : Nat) (h : Tr SObj) (e : TypeId) (size : Nat) : Value → Option (Nat × Nat × List Value)
  | .slice (some ⟨b, 0, none⟩) len cap => match h.get b with
    | some (.cells c t opn) => cond (Nat.ble G b && Nat.beq t e && Nat.ble (len * size) c.length && Nat.blt 0 size)
        (cond (Nat.blt cap capB)
          (cond (Nat.beq opn 0 && Nat.beq (cap * size) c.length && Nat.ble len cap && Nat.ble cap 1099511627776) (some (b, len, c.take (len * size))) none)
          (cond (Nat.beq opn size && Nat.beq cap (capB + b * 65536)) (some (b, len, c.take (len * size))) none)) none
    | _ => none
  | _ => none
theorem rowS_sound (D : Den G w0 r h nx w) {e : TypeId} {size : Nat} {v : Value} {b len : Nat} {cs : List Value} (hs : rowS G h e size v = some (b, len, cs)) :
    w.ownsRow w0.heap.size e size (ren r v) len (renL r cs) ∧ (ren r v).ownBlock = some (r.blk b) ∧ G ≤ b ∧ b < nx ∧ LtL nx cs ∧ (∃ c t opn, h.get b = some (.cells c t opn)) ∧ 0 < size := by
  unfold rowS at hs
  split at hs
  case h_2 => cases hs
  rename_i b' len' cap
  split at hs
  case h_2 => cases hs
  rename_i c t opn hb
  cases hc : (Nat.ble G b' && Nat.beq t e && Nat.ble (len' * size) c.length && Nat.blt 0 size) with
  | false => rw [hc] at hs; cases hs
  | true =>
    rw [hc, cond_true] at hs
    simp only [Bool.and_eq_true] at hc
    obtain ⟨⟨⟨c1, c2⟩, c3⟩, c4⟩ := hc
    have c1 := Nat.le_of_ble_eq_true c1
    have c2 : t = e := Nat.eq_of_beq_eq_true c2
    have c3 := Nat.le_of_ble_eq_true c3
    have c4 := blt_lt c4
    subst c2
    have hbn := D.dom b' (by rw [hb]; simp)
    have hlo := D.low b' c1 hbn
    obtain ⟨rest, hh, hr⟩ := D.obj b' _ hb
    have hcl : LtL nx c := D.lt b' _ hb
    have htake : ((renL r c ++ rest).toArray.toList.take (len' * size)) = renL r (c.take (len' * size)) := by
      rw [renL_take]
      show (renL r c ++ rest).take _ = _
      rw [List.take_append_of_le_length (by rw [renL_len]; exact c3)]
    have hlen : (renL r (c.take (len' * size))).length = len' * size := by rw [renL_len, List.length_take]; omega
    cases hcap : Nat.blt cap capB with
    | true =>
      rw [hcap, cond_true] at hs
      cases hd : (Nat.beq opn 0 && Nat.beq (cap * size) c.length && Nat.ble len' cap && Nat.ble cap 1099511627776) with
      | false => rw [hd] at hs; cases hs
      | true =>
        rw [hd, cond_true] at hs
        cases hs
        simp only [Bool.and_eq_true] at hd
        obtain ⟨⟨⟨d1, d2⟩, d3⟩, d4⟩ := hd
        have d1 : opn = 0 := Nat.eq_of_beq_eq_true d1
        have d2 : cap * size = c.length := Nat.eq_of_beq_eq_true d2
        rw [if_pos d1] at hr
        subst hr
        refine ⟨⟨hlen, .inr ⟨r.blk b, cap, _, ?_, hlo.1, hh, Nat.le_of_ble_eq_true d3, Nat.le_trans (Nat.le_of_ble_eq_true d4) (by decide), ?_, htake⟩⟩, by simp [ren, Ren.addr, Value.ownBlock], c1, hbn, hcl.sub fun v hv => List.mem_of_mem_take hv, ⟨_, _, _, hb⟩, c4⟩
        · simp only [ren, Ren.addr, capOf_small r (blt_lt hcap)]
        · simp only [List.size_toArray, List.length_append, renL_len, List.length_nil, Nat.add_zero]; exact d2.symm
    | false =>
      rw [hcap, cond_false] at hs
      cases hd : (Nat.beq opn size && Nat.beq cap (capB + b' * 65536)) with
      | false => rw [hd] at hs; cases hs
      | true =>
        rw [hd, cond_true] at hs
        cases hs
        simp only [Bool.and_eq_true] at hd
        have d1 : opn = size := Nat.eq_of_beq_eq_true hd.1
        have d2 : cap = capB + b * 65536 := Nat.eq_of_beq_eq_true hd.2
        rw [if_neg (by omega)] at hr
        have hcapOf : r.capOf cap = r.cap b := by
          unfold Ren.capOf
          rw [if_neg (by omega), d2, Nat.add_sub_cancel_left, Nat.mul_div_cancel _ (by decide), Nat.mul_mod_left, Nat.sub_zero]
        have hsz : r.cap b * size = c.length + rest.length := by rw [hr.1, d1]
        refine ⟨⟨hlen, .inr ⟨r.blk b, r.cap b, _, ?_, hlo.1, hh, ?_, hr.2, ?_, htake⟩⟩, by simp [ren, Ren.addr, Value.ownBlock], c1, hbn, hcl.sub fun v hv => List.mem_of_mem_take hv, ⟨_, _, _, hb⟩, c4⟩
        · simp only [ren, Ren.addr, hcapOf]
        · exact Nat.le_of_mul_le_mul_right (c := size) (Nat.le_trans (Nat.le_trans c3 (Nat.le_add_right _ rest.length)) (Nat.le_of_eq hsz.symm)) c4
        · simp only [List.size_toArray, List.length_append, renL_len]; exact hsz.symm
/-- The cells of a slice that is read. -/
noncomputable def newsS (h : Tr SObj) (size : Nat) : Value → Option (Nat × List Value)
  | .slice (some ⟨b, o, none⟩) n _ => match h.get b with
    | some (.cells c _ _) => cond (Nat.ble (o + n * size) c.length && c.all (·.oneCell')) (some (n, (c.drop o).take (n * size))) none
    | _ => none
  | _ => none
theorem newsS_sound (D : Den G w0 r h nx w) {size n : Nat} {x : Value} {cs : List Value} (hs : newsS h size x = some (n, cs)) :
    ∃ a c, ren r x = .slice (some a) n c ∧ (renL r cs).length = n * size ∧ (∀ j u, (renL r cs)[j]? = some u → w.cell? (a.add j) = some u) ∧ (∀ u ∈ renL r cs, u.oneCell' = true) ∧ LtL nx cs := by
  unfold newsS at hs
  split at hs
  case h_2 => cases hs
  rename_i b o n' cap
  split at hs
  case h_2 => cases hs
  rename_i c t op hb
  cases hc : (Nat.ble (o + n' * size) c.length && c.all (·.oneCell')) with
  | false => rw [hc] at hs; cases hs
  | true =>
    rw [hc, cond_true] at hs
    cases hs
    simp only [Bool.and_eq_true] at hc
    have c1 := Nat.le_of_ble_eq_true hc.1
    refine ⟨⟨r.blk b, o, none⟩, r.capOf cap, by simp [ren, Ren.addr], by rw [renL_len, List.length_take, List.length_drop]; omega, fun j u hj => ?_, fun u hu => ?_, (D.lt b _ hb : LtL nx c).sub fun v hv => List.mem_of_mem_drop (List.mem_of_mem_take hv)⟩
    · rw [renL_get] at hj
      obtain ⟨x, hx, rfl⟩ := Option.map_eq_some_iff.1 hj
      have hjl := (List.getElem?_eq_some_iff.1 hx).1
      rw [List.length_take] at hjl
      rw [List.getElem?_take, if_pos (by omega), List.getElem?_drop] at hx
      rw [add_none]
      exact cell_at D hb hx
    · rw [renL_map] at hu
      obtain ⟨v, hv, rfl⟩ := List.mem_map.1 hu
      rw [one_ren]
      exact List.all_eq_true.1 hc.2 v (List.mem_of_mem_drop (List.mem_of_mem_take hv))
/-- append of a slice to a slice. -/
noncomputable def appendS (P : Program) (G : Nat) (h : Tr SObj) (nx : Nat) (ats : List TypeId) (s x : Value) : Option (Value × Tr SObj × Nat) :=
  match ats with
  | [t, t'] => cond (Nat.beq t t') (match P.underlying t with
    | some (.slice e) => match P.info? e with
      | some i => match i.zero with
        | some z => cond (Nat.beq z.cells.size i.size && Nat.blt 0 i.size && Nat.ble i.bytes 1048576 && Nat.blt (nx + 1) capB)
            (match newsS h i.size x with
              | some (n, cs) => match s with
                | .slice none 0 0 => cond (Nat.beq n 0) (some (.slice none 0 0, h, nx)) (cond (Nat.ble n 1048576) (some (.slice (some ⟨nx, 0, none⟩) n (capB + nx * 65536), h.set nx (.cells cs e i.size), nx + 1)) none)
                | s => match rowS G h e i.size s with
                  | some (b, len, old) => cond (Nat.ble (len + n) 1048576) (some (.slice (some ⟨nx, 0, none⟩) (len + n) (capB + nx * 65536), (h.del b).set nx (.cells (old ++ cs) e i.size), nx + 1)) none
                  | none => none
              | none => match x with
                | .slice none 0 _ => match s with
                  | .slice none 0 0 => some (.slice none 0 0, h, nx)
                  | s => match rowS G h e i.size s with
                    | some _ => some (s, h, nx)
                    | none => none
                | _ => none) none
        | none => none
      | none => none
    | _ => none) none
  | _ => none
theorem Den.kill (D : Den G w0 r h nx w) {b : Nat} (hb : b < nx) : Den G w0 r (h.del b) nx w := by
  have hs : ∀ i, (h.del b).get i = if b = i then none else h.get i := fun i => Tr.get_del (Nat.lt_trans hb D.big)
  have hne : ∀ i o, (h.del b).get i = some o → h.get i = some o := fun i o hi => by
    rw [hs] at hi
    split at hi
    · cases hi
    · exact hi
  have hne2 : ∀ i, (h.del b).get i ≠ none → h.get i ≠ none := fun i hi => by
    cases e : (h.del b).get i with
    | none => exact absurd e hi
    | some o => rw [hne i o e]; simp
  exact ⟨D.bel, D.glo, D.gle, D.gsz, D.big, D.low, fun i j hi hj => D.inj i j (hne2 i hi) (hne2 j hj), fun i hi => D.dom i (hne2 i hi), fun i o hi => D.lt i o (hne i o hi), fun i o hi => D.obj i o (hne i o hi)⟩
/-- The heap has grown; one row, which is not spoken of, may have turned. -/
theorem Den.grow (D : Den G w0 r h nx w) {w' : World} {k : Nat} (hg : w.grownBy w' (some k)) (hk : w0.heap.size ≤ k) (hf : ∀ i, h.get i ≠ none → r.blk i ≠ k) : Den G w0 r h nx w' := by
  have hlt : ∀ i, h.get i ≠ none → r.blk i < w.heap.size := fun i hi => by
    by_cases hgi : i < G
    · rw [D.glo i hgi]; exact Nat.lt_of_lt_of_le hgi (Nat.le_trans D.gsz D.bel.size)
    · exact (D.low i (by omega) (D.dom i hi)).2
  refine ⟨D.bel.trans ⟨hg.os, hg.tape, hg.output, hg.size, fun j hj => hg.block j (Nat.lt_of_lt_of_le hj D.bel.size) (by intro e; cases e; omega)⟩, D.glo, D.gle, D.gsz, D.big, fun i h1 h2 => ⟨(D.low i h1 h2).1, Nat.lt_of_lt_of_le (D.low i h1 h2).2 hg.size⟩, D.inj, D.dom, D.lt, fun i o hi => (D.obj i o hi).keep (hg.block _ (hlt i (by rw [hi]; simp)) ?_)⟩
  intro e
  cases e
  exact hf i (by rw [hi]; simp) rfl
/-- A new object in a block that nothing else is in. -/
theorem Den.lay (D : Den G w0 r h nx w) (hbig : nx + 1 < capB) {b c : Nat} (hb : w0.heap.size ≤ b ∧ b < w.heap.size) (hf : ∀ i, h.get i ≠ none → r.blk i ≠ b) {o : SObj} (ho : ObjLt (nx + 1) o) (hat : ObjAt (Den.newR r nx b c) w nx o) : Den G w0 (Den.newR r nx b c) (h.set nx o) (nx + 1) w := by
  have ag := Den.newR_agree r nx b c
  have hnx : (Den.newR r nx b c).blk nx = b := by simp [Den.newR]
  have old : ∀ i, i < nx → (Den.newR r nx b c).blk i = r.blk i := fun i hi => (ag i hi).1.symm
  have hs : ∀ i, (h.set nx o).get i = if nx = i then some o else h.get i := fun i => Tr.get_set D.big
  refine ⟨D.bel, fun g hg => ?_, Nat.le_succ_of_le D.gle, D.gsz, hbig, fun i h1 h2 => ?_, fun i j hi hj e => ?_, fun i hi => ?_, fun i x hi => ?_, fun i x hi => ?_⟩
  · rw [old g (Nat.lt_of_lt_of_le hg D.gle)]; exact D.glo g hg
  · by_cases e : i = nx
    · subst e; rw [hnx]; exact hb
    · rw [old i (by omega)]; exact D.low i h1 (by omega)
  · rw [hs] at hi hj
    by_cases ei : nx = i
    · by_cases ej : nx = j
      · omega
      · subst ei
        rw [if_neg ej] at hj
        rw [hnx, old j (D.dom j hj)] at e
        exact absurd e.symm (hf j hj)
    · by_cases ej : nx = j
      · subst ej
        rw [if_neg ei] at hi
        rw [hnx, old i (D.dom i hi)] at e
        exact absurd e (hf i hi)
      · rw [if_neg ei] at hi; rw [if_neg ej] at hj
        rw [old i (D.dom i hi), old j (D.dom j hj)] at e
        exact D.inj i j hi hj e
  · rw [hs] at hi
    by_cases ei : nx = i
    · omega
    · rw [if_neg ei] at hi; have := D.dom i hi; omega
  · rw [hs] at hi
    by_cases ei : nx = i
    · rw [if_pos ei] at hi; cases hi; exact ho
    · rw [if_neg ei] at hi; exact (D.lt i x hi).mono (Nat.le_succ _)
  · rw [hs] at hi
    by_cases ei : nx = i
    · rw [if_pos ei] at hi; cases hi; subst ei; exact hat
    · rw [if_neg ei] at hi; exact (D.obj i x hi).same ag (D.dom i (by rw [hi]; simp)) (D.lt i x hi)
theorem append_nothing {t e : TypeId} {i : TypeInfo} (hu : P.underlying t = some (.slice e)) (hi : P.info? e = some i) (base : Option Addr) (len cap c : Nat) (hle : len ≤ cap) (ty : TypeId) (w : World) : (Builtin.append_ #[t, t] ty #[.slice base len cap, .slice none 0 c]).run P w = .ok (.slice base len cap) w := by
  cases base <;> simp [Builtin.append_, run_underlying hu, sizeOf, typeInfo, hi, Builtin.lenOf, hle, Builtin.firstCells, storeCells]
theorem capOf_open (r : Ren) (b : Nat) : r.capOf (capB + b * 65536) = r.cap b := by
  unfold Ren.capOf
  rw [if_neg (by omega), Nat.add_sub_cancel_left, Nat.mul_div_cancel _ (by decide), Nat.mul_mod_left, Nat.sub_zero]
theorem open_lt (b : Nat) : (capB + b * 65536 - capB) / 65536 = b := by rw [Nat.add_sub_cancel_left, Nat.mul_div_cancel _ (by decide)]
/-- Behind an append that laid something. -/
theorem append_laid (D : Den G w0 r h nx w) (hbig : nx + 1 < capB) {w' : World} {e : TypeId} {size m : Nat} {cs : List Value} {v' : Value} {row : Option Nat} (hown : w'.ownsRow w0.heap.size e size v' m (renL r cs)) (hnn : v' ≠ .slice none 0 0) (hg : w.grownBy w' row) (hsz : 0 < size) (hcl : LtL nx cs)
    (hrow : ∀ k, row = some k → w0.heap.size ≤ k ∧ ∀ i, h.get i ≠ none → r.blk i ≠ k) (hnew : ∀ k, v'.ownBlock = some k → row = some k ∨ w.heap.size ≤ k) :
    ∃ r', v' = ren r' (.slice (some ⟨nx, 0, none⟩) m (capB + nx * 65536)) ∧ Agree nx r r' ∧ Lt (nx + 1) (.slice (some ⟨nx, 0, none⟩) m (capB + nx * 65536)) ∧ Den G w0 r' (h.set nx (.cells cs e size)) (nx + 1) w' := by
  obtain ⟨hl, hcase⟩ := hown
  rcases hcase with ⟨rfl, -⟩ | ⟨g, cap, cur, rfl, hbg, hh, hnc, hcm, hcs, htake⟩
  · exact absurd rfl hnn
  · have D' : Den G w0 r h nx w' := by
      cases row with
      | none => exact D.more ⟨hg.os, hg.tape, hg.output, hg.size, fun k hk => hg.block k hk (by simp)⟩
      | some k => exact D.grow hg (hrow k rfl).1 (hrow k rfl).2
    have hlt : g < w'.heap.size := (Array.getElem?_eq_some_iff.1 hh).1
    have hfree : ∀ i, h.get i ≠ none → r.blk i ≠ g := fun i hi e => by
      rcases hnew g rfl with hr | hr
      · exact (hrow g hr).2 i hi e
      · by_cases hgi : i < G
        · have h1 := D.glo i hgi
          have h2 := Nat.le_trans D.gsz D.bel.size
          omega
        · have := (D.low i (by omega) (D.dom i hi)).2; omega
    have ag := Den.newR_agree r nx g cap
    have hcur : cur.toList = renL r cs ++ cur.toList.drop (m * size) := by rw [← htake, List.take_append_drop]
    refine ⟨Den.newR r nx g cap, ?_, ag, ?_, D'.lay hbig ⟨hbg, hlt⟩ hfree (LtL.mono (Nat.le_succ _) hcl) ⟨cur.toList.drop (m * size), ?_, ?_⟩⟩
    · simp only [ren, Ren.addr, capOf_open]
      simp [Den.newR]
    · simp only [Lt]
      exact ⟨Nat.lt_succ_self _, fun _ => by rw [open_lt]; exact Nat.lt_succ_self _⟩
    · have e1 : (Den.newR r nx g cap).blk nx = g := by simp [Den.newR]
      rw [e1, ← LtL.same ag hcl, ← hcur, hh]
    · rw [if_neg (by omega)]
      have e2 : (Den.newR r nx g cap).cap nx = cap := by simp [Den.newR]
      rw [e2]
      refine ⟨?_, hcm⟩
      have h3 : cs.length = m * size := by rw [← renL_len r cs, hl]
      have : m * size ≤ cap * size := Nat.mul_le_mul_right _ hnc
      rw [h3, List.length_drop, Array.length_toList, hcs]
      omega
theorem ren_nil (r : Ren) : ren r (.slice none 0 0) = .slice none 0 0 := by simp [ren]
theorem appendS_sound (D : Den G w0 r h nx w) {ats : Array TypeId} {ty : TypeId} {s x u : Value} {h' : Tr SObj} {nx' : Nat} (hls : Lt nx s) (hs : appendS P G h nx ats.toList s x = some (u, h', nx')) : Made G w0 r nx w u h' nx' ((Builtin.append_ ats ty #[ren r s, ren r x]).run P w) := by
  unfold appendS at hs
  split at hs
  case h_2 => cases hs
  rename_i t t' hats
  have hat : ats = #[t, t'] := by rw [← Array.toList_inj]; exact hats
  subst hat
  clear hats
  cases hc : Nat.beq t t' with
  | false => rw [hc] at hs; cases hs
  | true =>
    rw [hc, cond_true] at hs
    have ht : t = t' := Nat.eq_of_beq_eq_true hc
    subst ht
    split at hs
    case h_2 => cases hs
    rename_i e hu
    split at hs
    case h_2 => cases hs
    rename_i i hi
    split at hs
    case h_2 => cases hs
    rename_i z hz
    cases hd : (Nat.beq z.cells.size i.size && Nat.blt 0 i.size && Nat.ble i.bytes 1048576 && Nat.blt (nx + 1) capB) with
    | false => rw [hd] at hs; cases hs
    | true =>
      rw [hd, cond_true] at hs
      simp only [Bool.and_eq_true] at hd
      obtain ⟨⟨⟨d1, d2⟩, d3⟩, d4⟩ := hd
      have d1 : z.cells.size = i.size := Nat.eq_of_beq_eq_true d1
      have d2 := blt_lt d2
      have d3 := Nat.le_of_ble_eq_true d3
      have d4 := blt_lt d4
      have hB : w0.heap.size ≤ w.heap.size := D.bel.size
      have hmul : ∀ k, k ≤ 1048576 → k * i.bytes ≤ 140737488355328 := fun k hk => Nat.le_trans (Nat.mul_le_mul hk d3) (by decide)
      have hmax : ∀ k, k ≤ 1048576 → k ≤ maxLen := fun k hk => Nat.le_trans hk (by decide)
      split at hs
      · rename_i n cs hnews
        obtain ⟨a, c, hx, hl, hcells, hone, hlt⟩ := newsS_sound D hnews
        rw [hx]
        split at hs
        · cases hn0 : Nat.beq n 0 with
          | true =>
            rw [hn0, cond_true] at hs
            cases hs
            have hn : n = 0 := Nat.eq_of_beq_eq_true hn0
            subst hn
            obtain ⟨v', w', h1, h2, h3, h4, h5⟩ := run_append_own_at (P := P) (w := w) w0.heap.size t ty e i z i.size i.bytes hu hi hz rfl rfl d1 d2 (.slice none 0 0) 0 [] (World.ownsRow_nil w _ e _) a 0 c _ hl hcells hone (by decide) (by simp) hB
            have hv : v' = .slice none 0 0 := h4.2 ⟨rfl, rfl⟩
            subst hv
            exact ⟨r, w', by rw [ren_nil]; exact h1, Agree.refl _ _, Nat.le_refl _, by simp [Lt], D.more ⟨h3.os, h3.tape, h3.output, h3.size, fun k hk => h3.block k hk (by simp [Value.ownBlock])⟩⟩
          | false =>
            rw [hn0, cond_false] at hs
            cases hn1 : Nat.ble n 1048576 with
            | false => rw [hn1] at hs; cases hs
            | true =>
              rw [hn1, cond_true] at hs
              cases hs
              have hle := Nat.le_of_ble_eq_true hn1
              have hpos : n ≠ 0 := Nat.ne_of_beq_eq_false hn0
              obtain ⟨v', w', h1, h2, h3, h4, h5⟩ := run_append_own_at (P := P) (w := w) w0.heap.size t ty e i z i.size i.bytes hu hi hz rfl rfl d1 d2 (.slice none 0 0) 0 [] (World.ownsRow_nil w _ e _) a n c _ hl hcells hone (hmax _ (by omega)) (hmul _ (by omega)) hB
              rw [Nat.zero_add, List.nil_append] at h2
              have hnn : v' ≠ .slice none 0 0 := fun hv => hpos (h4.1 hv).2
              have hnew : ∀ k, v'.ownBlock = some k → (Value.ownBlock (.slice none 0 0)) = some k ∨ w.heap.size ≤ k := fun k hk => by
                rcases h5 with h5 | h5
                · rw [h5] at hk; simp [Value.ownBlock] at hk
                · rw [h5] at hk; cases hk; exact .inr (Nat.le_refl _)
              obtain ⟨r', e1, e2, e3, e4⟩ := append_laid D d4 h2 hnn h3 d2 hlt (fun k hk => by simp [Value.ownBlock] at hk) hnew
              exact ⟨r', w', by rw [ren_nil, h1, e1], e2, Nat.le_succ _, e3, e4⟩
        · split at hs
          case h_2 => cases hs
          rename_i b len old hrow
          cases hn1 : Nat.ble (len + n) 1048576 with
          | false => rw [hn1] at hs; cases hs
          | true =>
            rw [hn1, cond_true] at hs
            cases hs
            have hle := Nat.le_of_ble_eq_true hn1
            obtain ⟨q1, q2, q3, q4, q5, ⟨c0, t0, o0, q6⟩, q7⟩ := rowS_sound D hrow
            obtain ⟨v', w', h1, h2, h3, h4, h5⟩ := run_append_own_at (P := P) (w := w) w0.heap.size t ty e i z i.size i.bytes hu hi hz rfl rfl d1 d2 (ren r s) len (renL r old) q1 a n c _ hl hcells hone (hmax _ hle) (hmul _ hle) hB
            rw [← renL_app] at h2
            have hnn : v' ≠ .slice none 0 0 := fun hv => by
              have := (h4.1 hv).1
              rw [this] at q2
              simp [Value.ownBlock] at q2
            have hblo := D.low b q3 q4
            have hnew : ∀ k, v'.ownBlock = some k → (ren r s).ownBlock = some k ∨ w.heap.size ≤ k := fun k hk => by
              rcases h5 with h5 | h5
              · exact .inl (h5 ▸ hk)
              · rw [h5] at hk; cases hk; exact .inr (Nat.le_refl _)
            have hget : ∀ j, (h.del b).get j = if b = j then none else h.get j := fun j => Tr.get_del (Nat.lt_trans q4 D.big)
            have hrow2 : ∀ k, (ren r s).ownBlock = some k → w0.heap.size ≤ k ∧ ∀ j, (h.del b).get j ≠ none → r.blk j ≠ k := fun k hk => by
              rw [q2] at hk
              cases hk
              refine ⟨hblo.1, fun j hj e2 => ?_⟩
              rw [hget] at hj
              by_cases ej : b = j
              · rw [if_pos ej] at hj; exact hj rfl
              · rw [if_neg ej] at hj
                exact ej (D.inj j b hj (by rw [q6]; simp) e2).symm
            obtain ⟨r', e1, e2, e3, e4⟩ := append_laid (D.kill q4) d4 h2 hnn h3 d2 (q5.app hlt) hrow2 hnew
            exact ⟨r', w', by rw [h1, e1], e2, Nat.le_succ _, e3, e4⟩
      · split at hs
        case h_2 => cases hs
        rename_i c0 hnone
        rw [show ren r (.slice none 0 c0) = .slice none 0 c0 by simp [ren]]
        split at hs
        · cases hs
          exact ⟨r, w, by rw [ren_nil]; exact append_nothing hu hi none 0 0 c0 (Nat.le_refl _) ty w, Agree.refl _ _, Nat.le_refl _, by simp [Lt], D⟩
        · split at hs
          case h_2 => cases hs
          rename_i q hrow
          obtain ⟨b, len, old⟩ := q
          cases hs
          obtain ⟨q1, q2, q3, q4, q5, q6, q7⟩ := rowS_sound D hrow
          obtain ⟨-, ⟨hv, -⟩ | ⟨g, cap, cur, hv, -, -, hnc, -⟩⟩ := q1
          · rw [hv] at q2; simp [Value.ownBlock] at q2
          · exact ⟨r, w, by rw [hv]; exact append_nothing hu hi _ _ _ c0 hnc ty w, Agree.refl _ _, Nat.le_refl _, hls, D⟩
end Go.Rn
/-
  A symbolic world: slices of arrays, slices with three bounds, copy, delete, min, max, cap, bytes as a text. No condition.
-/
namespace Go.Rn
open Go.RowKit Go.MapKept
set_option linter.unusedVariables false
set_option linter.unusedSimpArgs false
variable {P : Program} {G : Nat} {w0 : World} {r : Ren} {h : Tr SObj} {nx : Nat} {w : World}
/-- A slice of an array. -/
noncomputable def sliceArrS (P : Program) (t : TypeId) (x : Value) (lo hi : Option Value) : Option Value :=
  match x with
  | .pointer (some ⟨b, o, none⟩) => match P.underlying t with
    | some (.array n e) => match P.info? e with
      | some i => match boundS 0 lo, boundS n hi with
        | some l, some m => cond (Nat.ble l m && Nat.ble m n && Nat.blt n capB) (some (.slice (some ⟨b, cond (Nat.beq n l) o (o + l * i.size), none⟩) (m - l) (n - l))) none
        | _, _ => none
      | none => none
    | _ => none
  | _ => none
theorem sliceArrS_sound {t : TypeId} {x u : Value} {lo hi : Option Value} (hx : Lt nx x) (hs : sliceArrS P t x lo hi = some u) (w : World) : (Instr.sliceAt t (ren r x) (lo.map (ren r)) (hi.map (ren r)) none).run P w = .ok (ren r u) w ∧ Lt nx u := by
  unfold sliceArrS at hs
  split at hs
  case h_2 => cases hs
  rename_i b o
  split at hs
  case h_2 => cases hs
  rename_i n e hu
  split at hs
  case h_2 => cases hs
  rename_i i hi
  split at hs
  case h_2 => cases hs
  rename_i l m h1 h2
  cases hc : (Nat.ble l m && Nat.ble m n && Nat.blt n capB) with
  | false => rw [hc] at hs; cases hs
  | true =>
    rw [hc, cond_true] at hs
    cases hs
    simp only [Bool.and_eq_true] at hc
    have b1 := Nat.le_of_ble_eq_true hc.1.1
    have b2 := Nat.le_of_ble_eq_true hc.1.2
    have b3 := blt_lt hc.2
    have hr := run_bounds (P := P) (r := r) (isS := false) h1 h2 b1 b2 w
    simp only [Lt] at hx
    refine ⟨?_, by simp only [Lt]; exact ⟨hx, fun hq => absurd b3 (by omega)⟩⟩
    simp only [ren, Ren.addr, Instr.sliceAt, Sem.run_bind, run_underlying hu, Result.andThen_ok, Instr.sureAddr, Sem.run_pure, hr, run_size hi, capOf_small r (show n - l < capB by omega)]
    congr 2
    by_cases hcl : n = l
    · have : Nat.beq n l = true := by rw [hcl]; simp
      rw [if_pos hcl, this]; rfl
    · have : Nat.beq n l = false := by cases hq : Nat.beq n l with
        | false => rfl
        | true => exact absurd (Nat.eq_of_beq_eq_true hq) hcl
      rw [if_neg hcl, this, add_none]; rfl
theorem run_bounds3 {isS : Bool} {len cap l m q : Nat} {lo hi mx : Option Value} (h1 : boundS 0 lo = some l) (h2 : boundS len hi = some m) (h3 : boundS 0 mx = some q) (hh : hi.isSome = true) (hm : mx.isSome = true) (hlm : l ≤ m) (hmq : m ≤ q) (hq : q ≤ cap) (w : World) : (Instr.sliceBounds isS len cap (lo.map (ren r)) (hi.map (ren r)) (mx.map (ren r))).run P w = .ok (l, m, q) w := by
  unfold Instr.sliceBounds
  rcases boundS_len h3 with ⟨rfl, rfl⟩ | ⟨k'', rfl⟩
  · cases hm
  rcases boundS_len h2 with ⟨rfl, rfl⟩ | ⟨k', rfl⟩
  · cases hh
  rcases boundS_len h1 with ⟨rfl, rfl⟩ | ⟨k, rfl⟩
  · simp [ren, run_bound _ _ _ _ hmq, run_bound _ _ _ _ hq]
  · simp [ren, run_bound _ _ _ _ hlm, run_bound _ _ _ _ hmq, run_bound _ _ _ _ hq]
/-- A slice with three bounds. -/
noncomputable def slice3S (P : Program) (h : Tr SObj) (t : TypeId) (x : Value) (lo hi mx : Option Value) : Option Value :=
  match x with
  | .slice (some ⟨b, o, none⟩) len cap => match P.underlying t with
    | some (.slice e) => match P.info? e with
      | some i => match boundS 0 lo, boundS len hi, boundS 0 mx with
        | some l, some m, some q => cond (hi.isSome && mx.isSome && Nat.ble l m && Nat.ble m q && Nat.blt q capB)
            (cond (Nat.blt cap capB)
              (cond (Nat.ble q cap) (some (.slice (some ⟨b, cond (Nat.beq q l) o (o + l * i.size), none⟩) (m - l) (q - l))) none)
              (match h.get b with
                | some (.cells c _ opn) => cond (Nat.beq ((cap - capB) / 65536) b && Nat.ble (((cap - capB) % 65536 + q) * opn) c.length && Nat.blt 0 opn)
                    (some (.slice (some ⟨b, cond (Nat.beq q l) o (o + l * i.size), none⟩) (m - l) (q - l))) none
                | _ => none)) none
        | _, _, _ => none
      | none => none
    | _ => none
  | .slice none 0 c => match P.underlying t with
    | some (.slice e) => match P.info? e with
      | some i => match boundS 0 lo, boundS 0 hi, boundS 0 mx with
        | some l, some m, some q => cond (hi.isSome && mx.isSome && Nat.ble l m && Nat.ble m q && Nat.ble q c && Nat.blt c capB) (some (.slice none (m - l) (q - l))) none
        | _, _, _ => none
      | none => none
    | _ => none
  | _ => none
theorem slice3S_sound (D : Den G w0 r h nx w) {t : TypeId} {x u : Value} {lo hi mx : Option Value} (hx : Lt nx x) (hs : slice3S P h t x lo hi mx = some u) : (Instr.sliceAt t (ren r x) (lo.map (ren r)) (hi.map (ren r)) (mx.map (ren r))).run P w = .ok (ren r u) w ∧ Lt nx u := by
  unfold slice3S at hs
  split at hs
  · rename_i b o len cap
    split at hs
    case h_2 => cases hs
    rename_i e hu
    split at hs
    case h_2 => cases hs
    rename_i i hi2
    split at hs
    case h_2 => cases hs
    rename_i l m q h1 h2 h3
    cases hb : (hi.isSome && mx.isSome && Nat.ble l m && Nat.ble m q && Nat.blt q capB) with
    | false => rw [hb] at hs; cases hs
    | true =>
      rw [hb, cond_true] at hs
      simp only [Bool.and_eq_true] at hb
      obtain ⟨⟨⟨⟨g1, g2⟩, g3⟩, g4⟩, g5⟩ := hb
      have b1 := Nat.le_of_ble_eq_true g3
      have b2 := Nat.le_of_ble_eq_true g4
      have b3 := blt_lt g5
      simp only [Lt] at hx
      have fin : ∀ (hq : q ≤ r.capOf cap), u = .slice (some ⟨b, cond (Nat.beq q l) o (o + l * i.size), none⟩) (m - l) (q - l) → (Instr.sliceAt t (ren r (.slice (some ⟨b, o, none⟩) len cap)) (lo.map (ren r)) (hi.map (ren r)) (mx.map (ren r))).run P w = .ok (ren r u) w ∧ Lt nx u := by
        intro hq hu2
        subst hu2
        have hr := run_bounds3 (P := P) (r := r) (isS := true) h1 h2 h3 g1 g2 b1 b2 hq w
        refine ⟨?_, by simp only [Lt]; exact ⟨hx.1, fun hq => absurd b3 (by omega)⟩⟩
        simp only [ren, Ren.addr, Instr.sliceAt, Sem.run_bind, run_underlying hu, Result.andThen_ok, Instr.slice, hr, run_size hi2, Sem.run_pure, capOf_small r (show q - l < capB by omega)]
        congr 2
        by_cases hcl : q = l
        · have : Nat.beq q l = true := by rw [hcl]; simp
          rw [if_pos hcl, this]; rfl
        · have : Nat.beq q l = false := by cases hq : Nat.beq q l with
            | false => rfl
            | true => exact absurd (Nat.eq_of_beq_eq_true hq) hcl
          rw [if_neg hcl, this, Option.map_some, add_none]; rfl
      cases hcap : Nat.blt cap capB with
      | true =>
        rw [hcap, cond_true] at hs
        cases hc : Nat.ble q cap with
        | false => rw [hc] at hs; cases hs
        | true =>
          rw [hc, cond_true] at hs
          exact fin (by rw [capOf_small r (blt_lt hcap)]; exact Nat.le_of_ble_eq_true hc) (Option.some.inj hs).symm
      | false =>
        rw [hcap, cond_false] at hs
        have hcb : capB ≤ cap := by
          rcases Nat.lt_or_ge cap capB with hq | hq
          · have : Nat.blt cap capB = true := Nat.ble_eq_true_of_le hq
            rw [this] at hcap; cases hcap
          · exact hq
        split at hs
        case h_2 => cases hs
        rename_i c t' opn hob
        cases hc : (Nat.beq ((cap - capB) / 65536) b && Nat.ble (((cap - capB) % 65536 + q) * opn) c.length && Nat.blt 0 opn) with
        | false => rw [hc] at hs; cases hs
        | true =>
          rw [hc, cond_true] at hs
          simp only [Bool.and_eq_true] at hc
          obtain ⟨⟨c1, c2⟩, c3⟩ := hc
          have c1 : (cap - capB) / 65536 = b := Nat.eq_of_beq_eq_true c1
          have c2 := Nat.le_of_ble_eq_true c2
          have c3 := blt_lt c3
          obtain ⟨rest, -, hr⟩ := D.obj b _ hob
          rw [if_neg (by omega)] at hr
          refine fin ?_ (Option.some.inj hs).symm
          unfold Ren.capOf
          rw [if_neg (by omega), c1]
          have : ((cap - capB) % 65536 + q) * opn ≤ r.cap b * opn := by rw [← hr.1]; omega
          have := Nat.le_of_mul_le_mul_right this c3
          omega
  · rename_i c
    split at hs
    case h_2 => cases hs
    rename_i e hu
    split at hs
    case h_2 => cases hs
    rename_i i hi2
    split at hs
    case h_2 => cases hs
    rename_i l m q h1 h2 h3
    cases hb : (hi.isSome && mx.isSome && Nat.ble l m && Nat.ble m q && Nat.ble q c && Nat.blt c capB) with
    | false => rw [hb] at hs; cases hs
    | true =>
      rw [hb, cond_true] at hs
      cases hs
      simp only [Bool.and_eq_true] at hb
      obtain ⟨⟨⟨⟨⟨g1, g2⟩, g3⟩, g4⟩, g5⟩, g6⟩ := hb
      have b1 := Nat.le_of_ble_eq_true g3
      have b2 := Nat.le_of_ble_eq_true g4
      have b3 := Nat.le_of_ble_eq_true g5
      have b4 := blt_lt g6
      have hr := run_bounds3 (P := P) (r := r) (isS := true) h1 h2 h3 g1 g2 b1 b2 b3 w
      refine ⟨?_, by simp [Lt]⟩
      simp only [ren, Instr.sliceAt, Sem.run_bind, run_underlying hu, Result.andThen_ok, Instr.slice, hr, run_size hi2, Sem.run_pure, Option.map_none, ite_self]
  · cases hs
end Go.Rn
