/-
  Merged texts (RHC, RHD, RHE, RI, RJ, RK, RL, RM), part 8 of 12. Conditions: each part's own, told at its head.
-/
import Derived.Test.YtnljjlaececnkaaGreatDoorBMP1
import Derived.Test.YtnljjlaececnkaaGreatDoorBMP2
import Derived.Test.YtnljjlaececnkaaGreatDoorBMP3
import Derived.Test.YtnljjlaececnkaaGreatDoorBMP4
import Derived.Test.YtnljjlaececnkaaGreatDoorBMP5
import Derived.Test.YtnljjlaececnkaaGreatDoorBMP6
import Derived.Test.YtnljjlaececnkaaGreatDoorBMP7
import Derived.Laws.BytesString
import Derived.Maps.RangeRun
import Derived.Orders
/-
  A symbolic world: copy, delete, min, max, cap, bytes as a text. No condition.
-/
namespace Go.Rn
open Go.RowKit Go.MapKept
set_option linter.unusedVariables false
set_option linter.unusedSimpArgs false
variable {P : Program} {G : Nat} {w0 : World} {r : Ren} {h : Tr SObj} {nx : Nat} {w : World}
/-- The first cells of what is copied: how many elements it has. -/
noncomputable def srcS (h : Tr SObj) (size d : Nat) : Value → Option (Nat × List Value)
  | .slice (some ⟨b, o, none⟩) n _ => match h.get b with
    | some (.cells c _ _) => cond (Nat.ble (o + (Nat.min n d) * size) c.length && c.all (·.oneCell')) (some (Nat.min n d, (c.drop o).take ((Nat.min n d) * size))) none
    | _ => none
  | .slice none 0 _ => some (0, [])
  | .string s => cond (Nat.beq size 1) (some (Nat.min s.data.toList.length d, (s.data.toList.take (Nat.min s.data.toList.length d)).map fun b => .int .u8 b.toNat)) none
  | _ => none
theorem u8_ren (r : Ren) (l : List UInt8) : renL r (l.map fun b => .int .u8 b.toNat) = l.map fun b => .int .u8 b.toNat := by
  rw [renL_map, List.map_map]
  exact List.map_congr_left fun b _ => by simp [ren]
theorem u8_lt (n : Nat) (l : List UInt8) : LtL n (l.map fun b => Value.int .u8 b.toNat) := by
  rw [LtL_iff]
  intro v hv
  obtain ⟨b, -, rfl⟩ := List.mem_map.1 hv
  simp [Lt]
theorem u8_one (l : List UInt8) : ∀ v ∈ (l.map fun b => Value.int .u8 b.toNat), v.oneCell' = true := by
  intro v hv
  obtain ⟨b, -, rfl⟩ := List.mem_map.1 hv
  rfl
theorem srcS_sound (D : Den G w0 r h nx w) {size d k : Nat} {x : Value} {cs : List Value} (hs : srcS h size d x = some (k, cs)) :
    (∃ n, (Builtin.lenOf (ren r x)).run P w = .ok n w ∧ Nat.min n d = k) ∧ (Builtin.firstCells size k (ren r x)).run P w = .ok (renL r cs).toArray w ∧ (∀ v ∈ cs, v.oneCell' = true) ∧ LtL nx cs := by
  unfold srcS at hs
  split at hs
  · rename_i b o n cap
    split at hs
    case h_2 => cases hs
    rename_i c t op hb
    cases hc : (Nat.ble (o + (Nat.min n d) * size) c.length && c.all (·.oneCell')) with
    | false => rw [hc] at hs; cases hs
    | true =>
      rw [hc, cond_true] at hs
      cases hs
      simp only [Bool.and_eq_true] at hc
      have c1 := Nat.le_of_ble_eq_true hc.1
      refine ⟨⟨n, by simp only [ren, Builtin.lenOf, Sem.run_pure], rfl⟩, ?_, fun v hv => List.all_eq_true.1 hc.2 v (List.mem_of_mem_drop (List.mem_of_mem_take hv)), (D.lt b _ hb : LtL nx c).sub fun v hv => List.mem_of_mem_drop (List.mem_of_mem_take hv)⟩
      simp only [ren, Ren.addr]
      refine run_firstCells_some w size _ ⟨r.blk b, o, none⟩ _ _ _ ?_ fun j u hj => ?_
      · rw [renL_len, List.length_take, List.length_drop]; omega
      · rw [renL_get] at hj
        obtain ⟨x, hx, rfl⟩ := Option.map_eq_some_iff.1 hj
        have hjl := (List.getElem?_eq_some_iff.1 hx).1
        rw [List.length_take] at hjl
        rw [List.getElem?_take, if_pos (by omega), List.getElem?_drop] at hx
        rw [add_none]
        exact cell_at D hb hx
  · cases hs
    refine ⟨⟨0, by simp only [ren, Builtin.lenOf, Sem.run_pure], Nat.zero_min _⟩, ?_, fun v hv => (by cases hv), by simp [LtL]⟩
    simp only [ren, run_firstCells_none, renL]
  · rename_i s
    cases hc : Nat.beq size 1 with
    | false => rw [hc] at hs; cases hs
    | true =>
      rw [hc, cond_true] at hs
      have h1 : size = 1 := Nat.eq_of_beq_eq_true hc
      subst h1
      cases hs
      refine ⟨⟨s.size, by simp only [ren, Builtin.lenOf, Sem.run_pure], by rw [size_data]⟩, ?_, u8_one _, u8_lt _ _⟩
      rw [u8_ren]
      simp only [ren, Builtin.firstCells, Sem.run_pure]
      congr 1
      apply Array.ext'
      simp [ByteArray.data_extract, List.extract_eq_take_drop]
  · cases hs
/-- copy. -/
noncomputable def copyS (P : Program) (G : Nat) (h : Tr SObj) (ats : List TypeId) (d x : Value) : Option (Value × Tr SObj) :=
  match ats with
  | t :: _ => match P.underlying t with
    | some (.slice e) => match P.info? e with
      | some i => match d with
        | .slice (some ⟨b, o, none⟩) dl _ => match srcS h i.size dl x with
          | some (k, cs) => match h.get b with
            | some (.cells c te op) => cond (Nat.ble G b && Nat.ble (o + cs.length) c.length) (some (.int .i64 (k : Nat), h.set b (.cells (c.take o ++ cs ++ c.drop (o + cs.length)) te op))) none
            | _ => none
          | none => none
        | .slice none 0 _ => match srcS h i.size 0 x with
          | some (k, cs) => some (.int .i64 (k : Nat), h)
          | none => none
        | _ => none
      | none => none
    | _ => none
  | [] => none
theorem copyS_sound (D : Den G w0 r h nx w) {ats : Array TypeId} {ty : TypeId} {d x u : Value} {h' : Tr SObj} (hs : copyS P G h ats.toList d x = some (u, h')) : ∃ w', (Builtin.copy_ ats ty #[ren r d, ren r x]).run P w = .ok (ren r u) w' ∧ Lt nx u ∧ Den G w0 r h' nx w' := by
  obtain ⟨ats⟩ := ats
  unfold copyS at hs
  split at hs
  case h_2 => cases hs
  rename_i t rest hat
  simp only at hat
  subst hat
  split at hs
  case h_2 => cases hs
  rename_i e hu
  split at hs
  case h_2 => cases hs
  rename_i i hi
  split at hs
  · rename_i b o dl cap
    split at hs
    case h_2 => cases hs
    rename_i k cs hsrc
    split at hs
    case h_2 => cases hs
    rename_i c te op hb
    cases hc : (Nat.ble G b && Nat.ble (o + cs.length) c.length) with
    | false => rw [hc] at hs; cases hs
    | true =>
      rw [hc, cond_true] at hs
      cases hs
      simp only [Bool.and_eq_true] at hc
      obtain ⟨⟨n, h1, h2⟩, h3, h4, h5⟩ := srcS_sound (P := P) D hsrc
      obtain ⟨w', h6, h7⟩ := store_at (P := P) D hb (Nat.le_of_ble_eq_true hc.1) o cs (Nat.le_of_ble_eq_true hc.2) h4 h5
      refine ⟨w', ?_, by simp [Lt], h7⟩
      simp only [ren, Ren.addr] at h6 ⊢
      simp only [Builtin.copy_, List.getElem?_toArray, List.getElem?_cons_zero, List.getElem?_cons_succ, Sem.run_bind, run_underlying hu, Result.andThen_ok, h1, h2, run_size hi, h3, h6, Sem.run_pure, goInt]
  · split at hs
    case h_2 => cases hs
    rename_i k cs hsrc
    cases hs
    obtain ⟨⟨n, h1, h2⟩, h3, h4, h5⟩ := srcS_sound (P := P) D hsrc
    refine ⟨w, ?_, by simp [Lt], D⟩
    simp only [ren]
    simp only [Builtin.copy_, List.getElem?_toArray, List.getElem?_cons_zero, List.getElem?_cons_succ, Sem.run_bind, run_underlying hu, Result.andThen_ok, h1, h2, run_size hi, h3, Sem.run_pure, goInt]
  · cases hs
theorem erase_map {α β : Type} (f : α → β) : ∀ (l : List α) (i : Nat), (l.map f).eraseIdx i = (l.eraseIdx i).map f
  | [], i => by simp
  | x :: l, 0 => by simp
  | x :: l, i + 1 => by simp [erase_map f l i]
/-- delete. -/
noncomputable def deleteS (P : Program) (G : Nat) (h : Tr SObj) (ats : List TypeId) (m k : Value) : Option (Tr SObj) :=
  match ats with
  | t :: _ => match P.underlying t with
    | some (.map kt _) => match m with
      | .map none => cond (keyOk P kt k) (some h) none
      | .map (some id) => match h.get id with
        | some (.map es bs cl) => cond (Nat.ble G id && keyOk P kt k)
            (match findS P kt k es with
              | some (some (i, _)) => some (h.set id (.map (es.eraseIdx i) (bs.eraseIdx i) cl))
              | some none => some h
              | none => none) none
        | _ => none
      | _ => none
    | _ => none
  | [] => none
theorem deleteS_sound (D : Den G w0 r h nx w) {ats : Array TypeId} {ty : TypeId} {m k : Value} {h' : Tr SObj} (hs : deleteS P G h ats.toList m k = some h') : ∃ w', (Builtin.delete_ ats ty #[ren r m, ren r k]).run P w = .ok (ren r undef) w' ∧ Den G w0 r h' nx w' := by
  obtain ⟨ats⟩ := ats
  unfold deleteS at hs
  split at hs
  case h_2 => cases hs
  rename_i t rest hat
  simp only at hat
  subst hat
  have hun : ren r undef = .tuple #[] := by simp [undef, noResult, ren, renA, renL]
  rw [hun]
  split at hs
  case h_2 => cases hs
  rename_i kt e hu
  split at hs
  · cases hc : keyOk P kt k with
    | false => rw [hc] at hs; cases hs
    | true =>
      rw [hc] at hs
      cases hs
      refine ⟨w, ?_, D⟩
      simp only [ren, Builtin.delete_, List.getElem?_toArray, List.getElem?_cons_zero, List.getElem?_cons_succ, Sem.run_bind, run_underlying hu, Result.andThen_ok, keyOk_check hc, Sem.run_pure]
  · rename_i id
    split at hs
    case h_2 => cases hs
    rename_i es bs cl hid
    cases hc : (Nat.ble G id && keyOk P kt k) with
    | false => rw [hc] at hs; cases hs
    | true =>
      rw [hc, cond_true] at hs
      simp only [Bool.and_eq_true] at hc
      have hG := Nat.le_of_ble_eq_true hc.1
      have hk := hc.2
      obtain ⟨en, hh, hl, hbn⟩ := map_at2 D hid
      have hes : ObjLt nx (.map es bs cl) := D.lt id _ hid
      have hlo := D.low id hG (D.dom id (by rw [hid]; simp))
      have main : ∀ (en' : Array MapEntry) (clock' : Nat) (es' : List (Value × Value)) (bs' : List Nat), en'.toList.map (·.born) = bs' → Like r en'.toList es' → (∀ q ∈ es', Lt nx q.1 ∧ Lt nx q.2) → Den G w0 r (h.set id (.map es' bs' clock')) nx { w with heap := w.heap.setIfInBounds (r.blk id) (.map en' clock') } := fun en' clock' es' bs' hb' hl' hlt' => by
        obtain ⟨hs1, hs2⟩ := heap_set (o' := .map en' clock') hh
        refine D.change hid hG (D.bel.trans ⟨rfl, rfl, rfl, by simp, fun j hj => hs2 j (by omega)⟩) (by simp) (fun j hj => hs2 j hj) hlt' ⟨en', hs1, hl', hb'⟩
      split at hs
      · rename_i i v0 hf
        cases hs
        have hfs := findS_sound (P := P) hl hf w
        refine ⟨{ w with heap := w.heap.setIfInBounds (r.blk id) (.map (en.eraseIdxIfInBounds i) cl) }, ?_, ?_⟩
        · simp only [ren, Builtin.delete_, List.getElem?_toArray, List.getElem?_cons_zero, List.getElem?_cons_succ, Sem.run_bind, run_underlying hu, Result.andThen_ok, MapKept.run_getObj_map hh, keyOk_check hk, hfs, Option.map_some, MapKept.run_setObj_map _ hh, Sem.run_pure]
        · have : (en.eraseIdxIfInBounds i).toList = en.toList.eraseIdx i := by
            unfold Array.eraseIdxIfInBounds
            split
            · rw [Array.toList_eraseIdx]
            · rename_i hn
              rw [List.eraseIdx_of_length_le (by rw [Array.length_toList]; omega)]
          refine main _ _ _ _ ?_ ?_ fun q hq => hes q (List.mem_of_mem_eraseIdx hq)
          · rw [this, ← erase_map, hbn]
          unfold Like at hl ⊢
          rw [this, ← erase_map, hl, erase_map]
      · rename_i hf
        cases hs
        have hfs := findS_sound (P := P) hl hf w
        have hself : { w with heap := w.heap.setIfInBounds (r.blk id) (.map en cl) } = w := by
          have : w.heap.setIfInBounds (r.blk id) (.map en cl) = w.heap := by
            apply Array.ext_getElem?
            intro j
            rw [Array.getElem?_setIfInBounds]
            split
            · rename_i e; subst e
              rw [hh]; split
              · rfl
              · rename_i hn; exact absurd (Array.getElem?_eq_some_iff.1 hh).1 hn
            · rfl
          rw [this]
        refine ⟨w, ?_, D⟩
        simp only [ren, Builtin.delete_, List.getElem?_toArray, List.getElem?_cons_zero, List.getElem?_cons_succ, Sem.run_bind, run_underlying hu, Result.andThen_ok, MapKept.run_getObj_map hh, keyOk_check hk, hfs, Option.map_none, MapKept.run_setObj_map _ hh, Sem.run_pure]
        rw [hself]
      · cases hs
  · cases hs
/-- min, max of whole numbers. -/
noncomputable def mmGo (mx : Bool) (l : List Value) : Value → Option Value :=
  List.rec (motive := fun _ => Value → Option Value) (fun acc => some acc) (fun y _ ih acc => match acc, y with
    | .int k a, .int _ b => ih (.int k (cond (cond mx (decide (b > a)) (decide (b < a))) b a))
    | _, _ => none) l
theorem mmGo_cons (mx : Bool) (y : Value) (l : List Value) (acc : Value) : mmGo mx (y :: l) acc = match acc, y with
    | .int k a, .int _ b => mmGo mx l (.int k (cond (cond mx (decide (b > a)) (decide (b < a))) b a))
    | _, _ => none := rfl
theorem mmGo_sound (mx : Bool) : ∀ (l : List Value) (acc u : Value), (∃ k a, acc = .int k a) → mmGo mx l acc = some u → ((renL r l).foldlM (cond mx Builtin.max2 Builtin.min2) acc).run P w = .ok u w ∧ ∃ k a, u = .int k a
  | [], acc, u, ha, hs => by
    have : acc = u := Option.some.inj hs
    subst this
    exact ⟨by simp [renL], ha⟩
  | y :: l, acc, u, ha, hs => by
    rw [mmGo_cons] at hs
    obtain ⟨k, a, rfl⟩ := ha
    obtain ⟨k', b, rfl⟩ : ∃ k' b, y = .int k' b := by
      cases y <;> first | (cases hs; done) | exact ⟨_, _, rfl⟩
    simp only at hs
    obtain ⟨e1, e2⟩ := mmGo_sound mx l _ u ⟨_, _, rfl⟩ hs
    refine ⟨?_, e2⟩
    simp only [renL, List.foldlM_cons, Sem.run_bind, ren]
    cases mx with
    | true =>
      simp only [cond_true, Builtin.max2, Sem.run_pure, Result.andThen_ok] at e1 ⊢
      rw [← e1]
      congr 3
      by_cases hb : b > a <;> simp [hb]
    | false =>
      simp only [cond_false, Builtin.min2, Sem.run_pure, Result.andThen_ok] at e1 ⊢
      rw [← e1]
      congr 3
      by_cases hb : b < a <;> simp [hb]
noncomputable def mmS (mx : Bool) (l : List Value) : Option Value := match l with
  | .int k a :: rest => mmGo mx rest (.int k a)
  | _ => none
theorem maxS_sound {l : List Value} {u : Value} {ats : Array TypeId} {ty : TypeId} (hs : mmS true l = some u) (n : Nat) (w : World) : (Builtin.max_ ats ty (renL r l).toArray).run P w = .ok (ren r u) w ∧ Lt n u := by
  unfold mmS at hs
  split at hs
  case h_2 => cases hs
  rename_i k a rest
  obtain ⟨e1, k', a', rfl⟩ := mmGo_sound (P := P) (r := r) (w := w) true _ _ _ ⟨_, _, rfl⟩ hs
  refine ⟨?_, by simp [Lt]⟩
  simp only [renL, ren, Builtin.max_]
  exact e1
theorem minS_sound {l : List Value} {u : Value} {ats : Array TypeId} {ty : TypeId} (hs : mmS false l = some u) (n : Nat) (w : World) : (Builtin.min_ ats ty (renL r l).toArray).run P w = .ok (ren r u) w ∧ Lt n u := by
  unfold mmS at hs
  split at hs
  case h_2 => cases hs
  rename_i k a rest
  obtain ⟨e1, k', a', rfl⟩ := mmGo_sound (P := P) (r := r) (w := w) false _ _ _ ⟨_, _, rfl⟩ hs
  refine ⟨?_, by simp [Lt]⟩
  simp only [renL, ren, Builtin.min_]
  exact e1
/-- cap of a slice whose capacity is known. -/
noncomputable def capS (P : Program) (t : TypeId) : Value → Option Value
  | .slice _ _ c => match P.underlying t with
    | some (.slice _) => cond (Nat.blt c capB) (some (.int .i64 (c : Nat))) none
    | _ => none
  | _ => none
theorem capS_sound {t : TypeId} {x u : Value} {ty : TypeId} (hs : capS P t x = some u) (n : Nat) (w : World) : (Builtin.cap_ #[t] ty #[ren r x]).run P w = .ok (ren r u) w ∧ Lt n u := by
  unfold capS at hs
  split at hs
  case h_2 => cases hs
  rename_i b m c
  split at hs
  case h_2 => cases hs
  rename_i e hu
  cases hc : Nat.blt c capB with
  | false => rw [hc] at hs; cases hs
  | true =>
    rw [hc] at hs
    cases hs
    refine ⟨?_, by simp [Lt]⟩
    cases b <;> simp only [ren, Builtin.cap_, Sem.run_bind, run_underlying hu, Result.andThen_ok, List.getElem?_toArray, List.getElem?_cons_zero, Sem.run_pure, goInt, capOf_small r (blt_lt hc)]
/-- Bytes as a text. -/
noncomputable def bytesS (l : List Value) : Option (List UInt8) :=
  List.rec (motive := fun _ => Option (List UInt8)) (some []) (fun v _ ih => match v with
    | .int .u8 n => match ih with
      | some m => some (UInt8.ofNat n.toNat :: m)
      | none => none
    | _ => none) l
theorem bytesS_cons (v : Value) (l : List Value) : bytesS (v :: l) = match v with
    | .int .u8 n => match bytesS l with
      | some m => some (UInt8.ofNat n.toNat :: m)
      | none => none
    | _ => none := rfl
theorem bytesS_sound (r : Ren) : ∀ (l : List Value) (m : List UInt8), bytesS l = some m → ∃ ns : List Int, renL r l = ns.map (Value.int .u8) ∧ m = ns.map fun n => UInt8.ofNat n.toNat
  | [], m, hs => by
    have : ([] : List UInt8) = m := Option.some.inj hs
    subst this
    exact ⟨[], by simp [renL], rfl⟩
  | v :: l, m, hs => by
    rw [bytesS_cons] at hs
    split at hs
    case h_2 => cases hs
    rename_i n
    split at hs
    case h_2 => cases hs
    rename_i m' hm
    cases hs
    obtain ⟨ns, e1, e2⟩ := bytesS_sound r l m' hm
    exact ⟨n :: ns, by simp only [renL, ren, List.map_cons, e1], by rw [e2]; rfl⟩
theorem push_fold : ∀ (ns : List Int) (s : ByteArray), ns.foldl (fun r n => r.push (UInt8.ofNat n.toNat)) s = ⟨(s.data.toList ++ ns.map fun n => UInt8.ofNat n.toNat).toArray⟩
  | [], s => by simp
  | n :: ns, s => by
    rw [List.foldl_cons, push_fold ns]
    congr 1
    simp [ByteArray.push]
noncomputable def strOfS (P : Program) (h : Tr SObj) (src dst : TypeId) (x : Value) : Option Value :=
  match P.underlying src with
  | some (.slice e) => match P.underlying dst with
    | some .string => match P.underlying e with
      | some (.int .u8) => match x with
        | .slice (some ⟨b, o, none⟩) n _ => match h.get b with
          | some (.cells c _ _) => cond (Nat.ble (o + n) c.length) (match bytesS ((c.drop o).take n) with
            | some m => some (.string ⟨m.toArray⟩)
            | none => none) none
          | _ => none
        | .slice none _ _ => some (.string ⟨#[]⟩)
        | _ => none
      | _ => none
    | _ => none
  | _ => none
theorem strOfS_sound (D : Den G w0 r h nx w) {src dst : TypeId} {x u : Value} (hs : strOfS P h src dst x = some u) (n : Nat) : (convert src dst (ren r x)).run P w = .ok (ren r u) w ∧ Lt n u := by
  unfold strOfS at hs
  split at hs
  case h_2 => cases hs
  rename_i e h1
  split at hs
  case h_2 => cases hs
  rename_i h2
  split at hs
  case h_2 => cases hs
  rename_i h3
  split at hs
  · rename_i b o k cap
    split at hs
    case h_2 => cases hs
    rename_i c t op hb
    cases hc : Nat.ble (o + k) c.length with
    | false => rw [hc] at hs; cases hs
    | true =>
      rw [hc, cond_true] at hs
      split at hs <;> cases hs
      rename_i m hm
      have c1 := Nat.le_of_ble_eq_true hc
      obtain ⟨ns, e1, e2⟩ := bytesS_sound r _ m hm
      have hl : (renL r ((c.drop o).take k)).length = k := by rw [renL_len, List.length_take, List.length_drop]; omega
      have hload : (loadCells ⟨r.blk b, o, none⟩ k).run P w = .ok (ns.map (Value.int .u8)).toArray w := by
        have := run_loadCells_list (P := P) w ⟨r.blk b, o, none⟩ (renL r ((c.drop o).take k)) (fun j u hj => by
          rw [renL_get] at hj
          obtain ⟨x, hx, rfl⟩ := Option.map_eq_some_iff.1 hj
          have hjl := (List.getElem?_eq_some_iff.1 hx).1
          rw [List.length_take] at hjl
          rw [List.getElem?_take, if_pos (by omega), List.getElem?_drop] at hx
          rw [add_none]
          exact cell_at D hb hx)
        rw [hl, e1] at this
        exact this
      refine ⟨?_, by simp [Lt]⟩
      have := run_bytesToString (P := P) w ⟨r.blk b, o, none⟩ k (r.capOf cap) ns hload
      simp only [ren, Ren.addr, convert, Sem.run_bind, run_underlying h1, run_underlying h2, run_underlying h3, Result.andThen_ok]
      rw [this, push_fold, e2]
      rfl
  · cases hs
    refine ⟨?_, by simp [Lt]⟩
    simp only [ren, convert, Sem.run_bind, run_underlying h1, run_underlying h2, run_underlying h3, Result.andThen_ok, Conv.bytesToString, Sem.run_pure]
    rfl
  · cases hs
end Go.Rn
/-
  A symbolic world: ranges over maps of which one entry at most is left at each step. No condition.
-/
namespace Go.Rn
open Go.RowKit Go.MapKept
open Go.ChangeMaps (setBlock)
set_option linter.unusedVariables false
set_option linter.unusedSimpArgs false
variable {P : Program} {G : Nat} {w0 : World} {r : Ren} {h : Tr SObj} {nx : Nat} {w : World}
/-- A range begins. -/
noncomputable def rangeS (P : Program) (h : Tr SObj) (nx : Nat) (t : TypeId) (x : Value) : Option (Value × Tr SObj) :=
  match P.underlying t with
  | some (.map _ _) => cond (Nat.blt (nx + 1) capB) (match x with
    | .map none => some (.pointer (some ⟨nx, 0, none⟩), h.set nx (.iter none 0 [] 0))
    | .map (some id) => match h.get id with
      | some (.map es bs cl) => some (.pointer (some ⟨nx, 0, none⟩), h.set nx (.iter (some id) cl [] cl))
      | _ => none
    | _ => none) none
  | _ => none
theorem iter_made (D : Den G w0 r h nx w) (hbig : Nat.blt (nx + 1) capB = true) {m : Option Nat} (hm : ∀ k, m = some k → k < nx) (c : Nat) {s : Sem Value} (hs : s.run P w = .ok (.pointer (some ⟨w.heap.size, 0, none⟩)) (w.alloc (.mapIter (m.map r.blk) c #[] c))) :
    Made G w0 r nx w (.pointer (some ⟨nx, 0, none⟩)) (h.set nx (.iter m c [] c)) (nx + 1) (s.run P w) := by
  have ag := Den.newR_agree r nx w.heap.size 0
  refine ⟨Den.newR r nx w.heap.size 0, w.alloc (.mapIter (m.map r.blk) c #[] c), ?_, ag, Nat.le_succ _, by simp [Lt], ?_⟩
  · rw [hs]; simp [ren, Ren.addr, Den.newR]
  · refine D.add ((Below.refl _ _).alloc (Nat.le_refl _) _) (Nat.le_refl _) (by simp) (Nat.le_of_ble_eq_true hbig) (fun k hk => Nat.lt_succ_of_lt (hm k hk)) ?_
    show _ = some (Obj.mapIter (m.map (Den.newR r nx w.heap.size 0).blk) c [].toArray c)
    have e : (Den.newR r nx w.heap.size 0).blk nx = w.heap.size := by simp [Den.newR]
    have e2 : m.map (Den.newR r nx w.heap.size 0).blk = m.map r.blk := by
      cases m with
      | none => rfl
      | some k => rw [Option.map_some, Option.map_some, (ag k (hm k rfl)).1]
    rw [e, e2]
    show (w.heap.push _)[w.heap.size]? = _
    simp
theorem rangeS_sound (D : Den G w0 r h nx w) {t : TypeId} {x u : Value} {h' : Tr SObj} (hs : rangeS P h nx t x = some (u, h')) : Made G w0 r nx w u h' (nx + 1) ((Instr.range t (ren r x)).run P w) := by
  unfold rangeS at hs
  split at hs
  case h_2 => cases hs
  rename_i kt e hu
  cases hbig : Nat.blt (nx + 1) capB with
  | false => rw [hbig] at hs; cases hs
  | true =>
    rw [hbig, cond_true] at hs
    split at hs
    · cases hs
      refine iter_made D hbig (m := none) (fun k hk => by cases hk) 0 ?_
      simp only [ren, Instr.range, Sem.run_bind, run_underlying hu, Result.andThen_ok, Sem.run_pure, Option.map_none]
      simp [newObj, Sem.run]
    · rename_i id
      split at hs
      case h_2 => cases hs
      rename_i es bs cl hid
      cases hs
      obtain ⟨en, hh, -, -⟩ := map_at2 D hid
      refine iter_made D hbig (m := some id) (fun k hk => by cases hk; exact D.dom id (by rw [hid]; simp)) cl ?_
      simp only [ren, Instr.range, Sem.run_bind, run_underlying hu, Result.andThen_ok, MapKept.run_getObj_map hh, Sem.run_pure, Option.map_some]
      simp [newObj, Sem.run]
    · cases hs
/-- What is left. -/
noncomputable def leftS (seen : List Nat) (es : List (Value × Value)) : List Nat → List ((Value × Value) × Nat) :=
  List.rec (motive := fun _ => List Nat → List ((Value × Value) × Nat)) (fun _ => []) (fun e _ ih bs => match bs with
    | b :: bs => cond (seen.any fun s => Nat.beq s b) (ih bs) ((e, b) :: ih bs)
    | [] => []) es
theorem leftS_cons (seen : List Nat) (e : Value × Value) (es : List (Value × Value)) (b : Nat) (bs : List Nat) : leftS seen (e :: es) (b :: bs) = cond (seen.any fun s => Nat.beq s b) (leftS seen es bs) ((e, b) :: leftS seen es bs) := rfl
theorem any_contains (seen : List Nat) (b : Nat) : (seen.any fun s => Nat.beq s b) = seen.toArray.contains b := by
  rw [Bool.eq_iff_iff]
  simp only [List.any_eq_true, List.contains_toArray, List.contains_iff_mem, Nat.beq_eq]
  constructor
  · rintro ⟨x, hx, rfl⟩; exact hx
  · intro hx; exact ⟨b, hx, rfl⟩
theorem leftS_spec (r : Ren) (seen : List Nat) : ∀ (en : List MapEntry) (es : List (Value × Value)) (bs : List Nat), en.map (fun e => (e.key, e.val)) = es.map (fun e => (ren r e.1, ren r e.2)) → en.map (·.born) = bs →
    (en.filter fun e => !seen.toArray.contains e.born).map (fun e => (e.key, e.val, e.born)) = (leftS seen es bs).map (fun p => (ren r p.1.1, ren r p.1.2, p.2))
  | [], es, bs, h1, h2 => by
    cases es with
    | nil => subst h2; rfl
    | cons x es => simp at h1
  | e :: en, es, bs, h1, h2 => by
    cases es with
    | nil => simp at h1
    | cons x es =>
      subst h2
      simp only [List.map_cons, List.cons.injEq, Prod.mk.injEq] at h1
      obtain ⟨⟨k1, k2⟩, h1⟩ := h1
      have ih := leftS_spec r seen en es _ h1 rfl
      rw [List.map_cons, leftS_cons, any_contains, List.filter_cons]
      cases hb : seen.toArray.contains e.born with
      | true => simp only [Bool.not_true, Bool.false_eq_true, if_false, cond_true]; exact ih
      | false => simp only [Bool.not_false, if_true, cond_false, List.map_cons, ih, k1, k2]
/-- A step. -/
noncomputable def nextS (G : Nat) (h : Tr SObj) (it : Value) (isString : Bool) : Option (Value × Tr SObj) :=
  match it with
  | .pointer (some ⟨b, 0, none⟩) => match h.get b with
    | some (.iter m since seen last) => cond isString none (match m with
      | none => some (.tuple #[.bool false], h)
      | some id => match h.get id with
        | some (.map es bs cl) => cond (Nat.ble G b && Nat.ble since last && bs.all (fun x => Nat.blt x since)) (match leftS seen es bs with
          | [] => some (.tuple #[.bool false], h)
          | [p] => some (.tuple #[.bool true, p.1.1, p.1.2], h.set b (.iter (some id) since (seen ++ [p.2]) cl))
          | _ => none) none
        | _ => none)
    | _ => none
  | _ => none
theorem left_mem {seen : List Nat} : ∀ {es : List (Value × Value)} {bs : List Nat} {p : (Value × Value) × Nat}, p ∈ leftS seen es bs → p.1 ∈ es
  | [], bs, p, hp => by simp [leftS] at hp
  | e :: es, [], p, hp => by
    have : leftS seen (e :: es) [] = [] := rfl
    rw [this] at hp; cases hp
  | e :: es, b :: bs, p, hp => by
    rw [leftS_cons] at hp
    cases hb : (seen.any fun s => Nat.beq s b) with
    | true => rw [hb, cond_true] at hp; exact List.mem_cons_of_mem _ (left_mem hp)
    | false =>
      rw [hb, cond_false] at hp
      rcases List.mem_cons.1 hp with rfl | hp
      · exact List.mem_cons_self ..
      · exact List.mem_cons_of_mem _ (left_mem hp)
theorem nextS_sound (D : Den G w0 r h nx w) {it u : Value} {isString : Bool} {h' : Tr SObj} (hs : nextS G h it isString = some (u, h')) (ty : TypeId) : ∃ w', (Instr.next (ren r it) isString ty).run P w = .ok (ren r u) w' ∧ Lt nx u ∧ Den G w0 r h' nx w' := by
  unfold nextS at hs
  split at hs
  case h_2 => cases hs
  rename_i b
  split at hs
  case h_2 => cases hs
  rename_i m since seen last hb
  cases isString with
  | true => cases hs
  | false =>
    rw [cond_false] at hs
    have hob := D.obj b _ hb
    replace hob : w.heap[r.blk b]? = some (.mapIter (m.map r.blk) since seen.toArray last) := hob
    split at hs
    · cases hs
      refine ⟨w, ?_, by simp [Lt, LtA, LtL], D⟩
      simp only [Option.map_none] at hob
      simp only [ren, Ren.addr, renA, renL, Instr.next, getObj, Sem.run_bind, Sem.run, hob, Result.andThen]
      rfl
    · rename_i id
      split at hs
      case h_2 => cases hs
      rename_i es bs cl hid
      cases hc : (Nat.ble G b && Nat.ble since last && bs.all (fun x => Nat.blt x since)) with
      | false => rw [hc] at hs; cases hs
      | true =>
        rw [hc, cond_true] at hs
        simp only [Bool.and_eq_true] at hc
        obtain ⟨⟨c1, c2⟩, c3⟩ := hc
        obtain ⟨en, hh, hl, hbn⟩ := map_at2 D hid
        simp only [Option.map_some] at hob
        have hold : ∀ x ∈ en.toList, x.born < since := fun x hx => by
          have : x.born ∈ bs := by rw [← hbn]; exact List.mem_map.2 ⟨x, hx, rfl⟩
          exact blt_lt (List.all_eq_true.1 c3 _ this)
        have hrun := run_next_at (P := P) w ty (r.blk b) (r.blk id) since last seen.toArray en cl hob hh hold (Nat.le_of_ble_eq_true c2)
        have hleft := leftS_spec r seen en.toList es bs hl hbn
        have hlo : (leftOf en seen.toArray).toList = en.toList.filter fun e => !seen.toArray.contains e.born := by unfold leftOf; rw [Array.toList_filter]
        rw [← hlo] at hleft
        have hit : ren r (.pointer (some ⟨b, 0, none⟩)) = .pointer (some ⟨r.blk b, 0, none⟩) := by simp [ren, Ren.addr]
        rw [hit]
        split at hs
        · rename_i hnil
          cases hs
          rw [hnil] at hleft
          have hz : (leftOf en seen.toArray).toList = [] := List.map_eq_nil_iff.1 hleft
          rcases hrun with ⟨-, h1⟩ | ⟨e, he, -⟩
          · exact ⟨w, by rw [h1]; simp [ren, renA, renL], by simp [Lt, LtA, LtL], D⟩
          · rw [hz] at he; cases he
        · rename_i p hp
          cases hs
          rw [hp] at hleft
          obtain ⟨e, he⟩ : ∃ e, (leftOf en seen.toArray).toList = [e] := by
            have := congrArg List.length hleft
            rw [List.length_map] at this
            exact List.length_eq_one_iff.1 this
          rw [he] at hleft
          simp only [List.map_cons, List.map_nil, List.cons.injEq, Prod.mk.injEq, and_true] at hleft
          obtain ⟨k1, k2, k3⟩ := hleft
          rcases hrun with ⟨h1, -⟩ | ⟨e', he', w1, hw1, h1⟩
          · rw [← Array.length_toList, he] at h1; cases h1
          · rw [he, List.mem_singleton] at he'
            subst he'
            have D1 : Den G w0 r h nx w1 := by
              rcases hw1 with rfl | rfl
              · exact D
              · exact D.drew
            have hob1 : w1.heap[r.blk b]? = some (.mapIter (some (r.blk id)) since seen.toArray last) := by rcases hw1 with rfl | rfl <;> exact hob
            have hpm : p ∈ leftS seen es bs := by rw [hp]; exact List.mem_singleton.2 rfl
            have hlt : Lt nx p.1.1 ∧ Lt nx p.1.2 := (D.lt id _ hid : ObjLt nx (.map es bs cl)) p.1 (left_mem hpm)
            have hG := Nat.le_of_ble_eq_true c1
            refine ⟨setBlock w1 (r.blk b) (.mapIter (some (r.blk id)) since (seen.toArray.push e'.born) cl), ?_, by simp only [Lt, LtA, LtL]; exact ⟨trivial, hlt.1, hlt.2, trivial⟩, ?_⟩
            · rw [h1]; simp [ren, renA, renL, k1, k2]
            · have hlo := D1.low b hG (D1.dom b (by rw [hb]; simp))
              have hset : ∀ k, (setBlock w1 (r.blk b) (.mapIter (some (r.blk id)) since (seen.toArray.push e'.born) cl)).heap[k]? = if r.blk b = k then some (.mapIter (some (r.blk id)) since (seen.toArray.push e'.born) cl) else w1.heap[k]? := fun k => by
                simp only [setBlock, Array.getElem?_setIfInBounds]
                split
                · rw [if_pos hlo.2]
                · rfl
              refine D1.change hb hG (D1.bel.trans ⟨rfl, rfl, rfl, by simp [setBlock], fun k hk => ?_⟩) (by simp [setBlock]) (fun k hk => ?_) (fun k hk => by cases hk; exact D.dom id (by rw [hid]; simp)) ?_
              · rw [hset, if_neg (by omega)]
              · rw [hset, if_neg (by omega)]
              · show _ = some (Obj.mapIter ((some id).map r.blk) since (seen ++ [p.2]).toArray cl)
                rw [hset, if_pos rfl, k3]
                simp
        · cases hs
/-- The entry of the last step. -/
noncomputable def entryS (h : Tr SObj) (it : Value) : Option Value :=
  match it with
  | .pointer (some ⟨b, 0, none⟩) => match h.get b with
    | some (.iter (some id) since [s] last) => match h.get id with
      | some (.map [e] [b1] cl) => cond (Nat.beq cl last && Nat.beq b1 s) (some (.tuple #[e.1, e.2])) none
      | _ => none
    | _ => none
  | _ => none
theorem entryS_sound (D : Den G w0 r h nx w) {it u : Value} (hs : entryS h it = some u) : (Instr.entry (ren r it)).run P w = .ok (ren r u) w ∧ Lt nx u := by
  unfold entryS at hs
  split at hs
  case h_2 => cases hs
  rename_i b
  split at hs
  case h_2 => cases hs
  rename_i id since s last hb
  split at hs
  case h_2 => cases hs
  rename_i e b1 cl hid
  cases hc : (Nat.beq cl last && Nat.beq b1 s) with
  | false => rw [hc] at hs; cases hs
  | true =>
    rw [hc, cond_true] at hs
    cases hs
    simp only [Bool.and_eq_true] at hc
    have e1 : cl = last := Nat.eq_of_beq_eq_true hc.1
    have e2 : b1 = s := Nat.eq_of_beq_eq_true hc.2
    subst e1 e2
    have hob : w.heap[r.blk b]? = some (.mapIter (some (r.blk id)) since #[b1] cl) := D.obj b _ hb
    obtain ⟨en, hh, hl, hbn⟩ := map_at2 D hid
    obtain ⟨x, hx⟩ : ∃ x, en.toList = [x] := by
      have := congrArg List.length hbn
      rw [List.length_map] at this
      exact List.length_eq_one_iff.1 this
    unfold Like at hl
    rw [hx] at hl hbn
    simp only [List.map_cons, List.map_nil, List.cons.injEq, Prod.mk.injEq, and_true] at hl hbn
    have hlt : Lt nx e.1 ∧ Lt nx e.2 := (D.lt id _ hid : ObjLt nx (.map [e] [b1] cl)) e (List.mem_singleton.2 rfl)
    refine ⟨?_, by simp only [Lt, LtA, LtL]; exact ⟨hlt.1, hlt.2, trivial⟩⟩
    have h0 : w.heap[r.blk b]? = some (.mapIter (some (r.blk id)) since ((#[] : Array Nat).push x.born) cl) := by rw [hbn]; exact hob
    have := run_entry_at (P := P) w (r.blk b) (r.blk id) since #[] en cl x h0 hh (by rw [hx]; exact List.mem_singleton.2 rfl) (by rw [hx]; simp)
    have hit : ren r (.pointer (some ⟨b, 0, none⟩)) = .pointer (some ⟨r.blk b, 0, none⟩) := by simp [ren, Ren.addr]
    rw [hit, this, hl.1, hl.2]
    simp [ren, renA, renL]
end Go.Rn
/-
  A symbolic world: clear of a slice. No condition.
-/
namespace Go.Rn
open Go.RowKit Go.MapKept
set_option linter.unusedVariables false
set_option linter.unusedSimpArgs false
variable {P : Program} {G : Nat} {w0 : World} {r : Ren} {h : Tr SObj} {nx : Nat} {w : World}
noncomputable def clearS (P : Program) (G : Nat) (h : Tr SObj) (ats : List TypeId) (x : Value) : Option (Tr SObj) :=
  match ats with
  | [t] => match P.underlying t with
    | some (.slice e) => match x with
      | .slice none 0 0 => some h
      | .slice (some ⟨b, o, none⟩) n _ => match P.info? e with
        | some i => match i.zero with
          | some z => match h.get b with
            | some (.cells c te op) => cond (Nat.blt 0 n && Nat.ble G b && bare z && z.cells.toList.all (·.oneCell') && Nat.ble (o + n * z.cells.toList.length) c.length)
              (some (h.set b (.cells (c.take o ++ rep n z.cells.toList ++ c.drop (o + (rep n z.cells.toList).length)) te op))) none
            | _ => none
          | none => none
        | none => none
      | _ => none
    | _ => none
  | _ => none
theorem rep_all {p : Value → Bool} {l : List Value} (hl : ∀ v ∈ l, p v = true) : ∀ n, ∀ v ∈ rep n l, p v = true
  | 0, v, hv => by rw [rep_zero] at hv; cases hv
  | n + 1, v, hv => by
    rw [rep_succ] at hv
    rcases List.mem_append.1 hv with hv | hv
    · exact hl v hv
    · exact rep_all hl n v hv
theorem clearS_sound (D : Den G w0 r h nx w) {ats : Array TypeId} {ty : TypeId} {x : Value} {h' : Tr SObj} (hs : clearS P G h ats.toList x = some h') : ∃ w', (Builtin.clear_ ats ty #[ren r x]).run P w = .ok (ren r undef) w' ∧ Den G w0 r h' nx w' := by
  obtain ⟨ats⟩ := ats
  unfold clearS at hs
  split at hs
  case h_2 => cases hs
  rename_i t hat
  simp only at hat
  subst hat
  have hun : ren r undef = .tuple #[] := by simp [undef, noResult, ren, renA, renL]
  rw [hun]
  split at hs
  case h_2 => cases hs
  rename_i e hu
  split at hs
  · cases hs
    refine ⟨w, ?_, D⟩
    simp only [ren, Builtin.clear_, List.getElem?_toArray, List.getElem?_cons_zero, Sem.run_bind, run_underlying hu, Result.andThen_ok, Sem.run_pure]
  · rename_i b o n cap
    split at hs
    case h_2 => cases hs
    rename_i i hi
    split at hs
    case h_2 => cases hs
    rename_i z hz
    split at hs
    case h_2 => cases hs
    rename_i c te op hb
    cases hc : (Nat.blt 0 n && Nat.ble G b && bare z && z.cells.toList.all (·.oneCell') && Nat.ble (o + n * z.cells.toList.length) c.length) with
    | false => rw [hc] at hs; cases hs
    | true =>
      rw [hc, cond_true] at hs
      cases hs
      simp only [Bool.and_eq_true] at hc
      obtain ⟨⟨⟨⟨c0, c1⟩, c2⟩, c3⟩, c4⟩ := hc
      have b0 := blt_lt c0
      have hl : (rep n z.cells.toList).length = n * z.cells.toList.length := rep_len _ _
      obtain ⟨w', h6, h7⟩ := store_at (P := P) D hb (Nat.le_of_ble_eq_true c1) o (rep n z.cells.toList) (by rw [hl]; exact Nat.le_of_ble_eq_true c4) (rep_all (fun v hv => List.all_eq_true.1 c3 v hv) n) (rep_lt (bare_cells_lt c2 nx) n)
      refine ⟨w', ?_, h7⟩
      rw [rep_bare (bare_cells c2 r) n] at h6
      obtain ⟨m, rfl⟩ : ∃ m, n = m + 1 := ⟨n - 1, by omega⟩
      have hzc : (Builtin.zeroCells z.cells (m + 1)).toList = rep (m + 1) z.cells.toList := by
        unfold Builtin.zeroCells
        rw [rep_eq]
      simp only [ren, Ren.addr, Builtin.clear_, List.getElem?_toArray, List.getElem?_cons_zero, Sem.run_bind, run_underlying hu, Result.andThen_ok, run_zero hi hz, hzc, h6, Sem.run_pure]
  · cases hs
end Go.Rn
/-
  A symbolic world: one operation. Condition: no function of the program is runtime.NumGoroutine.
-/
namespace Go.Rn
open Go.RowKit Go.MapKept
set_option linter.unusedVariables false
set_option linter.unusedSimpArgs false
variable {P : Program} {G : Nat} {w0 : World} {r : Ren} {h : Tr SObj} {nx : Nat} {w : World}
inductive SR where
  | val (v : Value) (h : Tr SObj) (nx : Nat)
  | call (f : FuncId) (args : List Value)
/-- A frame's values by number; constants. -/
noncomputable def evS (G : Nat) (T : Tr Value) : Operand → Option Value
  | .tmp t => match T.get t with
    | some v => some v
    | none => some undef
  | .const v => cond (bare v) (some v) none
  | .global g => cond (Nat.blt g G) (some (.pointer (some ⟨g, 0, none⟩))) none
  | .func f => some (.func (.func f) #[] #[])
/-- The frame means this. -/
structure Fits (G : Nat) (r : Ren) (nx : Nat) (T : Tr Value) (a : Act) : Prop where
  val : ∀ t, a.tmps.getD t undef = ren r ((T.get t).getD undef)
  lt : ∀ t v, T.get t = some v → Lt nx v
theorem undef_ren (r : Ren) : ren r undef = undef := by simp [undef, noResult, ren, renA, renL]
theorem undef_lt (n : Nat) : Lt n undef := by simp [undef, noResult, Lt, LtA, LtL]
theorem evS_sound (D : Den G w0 r h nx w) {T : Tr Value} {a : Act} (F : Fits G r nx T a) {x : Operand} {v : Value} (hs : evS G T x = some v) : a.eval x = ren r v ∧ Lt nx v := by
  unfold evS at hs
  split at hs
  · rename_i t
    have hv := F.val t
    split at hs
    · rename_i u hu
      cases hs
      rw [hu] at hv
      exact ⟨hv, F.lt t _ hu⟩
    · rename_i hu
      cases hs
      rw [hu] at hv
      exact ⟨hv, undef_lt _⟩
  · rename_i u
    cases hb : bare u with
    | false => rw [hb] at hs; cases hs
    | true =>
      rw [hb, cond_true] at hs
      cases hs
      exact ⟨(bare_ren hb).symm, bare_lt hb⟩
  · rename_i g
    cases hb : Nat.blt g G with
    | false => rw [hb] at hs; cases hs
    | true =>
      rw [hb, cond_true] at hs
      cases hs
      have := blt_lt hb
      exact ⟨by simp [Act.eval, ren, Ren.addr, D.glo g this], by simp only [Lt]; exact Nat.lt_of_lt_of_le this D.gle⟩
  · cases hs
    exact ⟨by simp [Act.eval, ren, renA, renL], by simp [Lt, LtA, LtL]⟩
/-- The values of several operands. -/
noncomputable def evL (G : Nat) (T : Tr Value) (xs : List Operand) : Option (List Value) :=
  List.rec (motive := fun _ => Option (List Value)) (some []) (fun x _ ih => match evS G T x with
    | some v => match ih with
      | some l => some (v :: l)
      | none => none
    | none => none) xs
theorem evL_cons (T : Tr Value) (x : Operand) (xs : List Operand) : evL G T (x :: xs) = match evS G T x with
    | some v => match evL G T xs with
      | some l => some (v :: l)
      | none => none
    | none => none := rfl
/-- Parts with numbers. -/
noncomputable def evP (G : Nat) (T : Tr Value) (xs : List (Nat × Operand)) : Option (List (Nat × Value)) :=
  List.rec (motive := fun _ => Option (List (Nat × Value))) (some []) (fun x _ ih => match evS G T x.2 with
    | some v => match ih with
      | some l => some ((x.1, v) :: l)
      | none => none
    | none => none) xs
theorem evP_cons (T : Tr Value) (x : Nat × Operand) (xs : List (Nat × Operand)) : evP G T (x :: xs) = match evS G T x.2 with
    | some v => match evP G T xs with
      | some l => some ((x.1, v) :: l)
      | none => none
    | none => none := rfl
noncomputable def nilCheckS : Value → Option Value
  | .pointer (some a) => some (.pointer (some a))
  | .func (.func f) a b => some (.func (.func f) a b)
  | .iface t v => some (.iface t v)
  | _ => none
noncomputable def lenS (P : Program) (h : Tr SObj) (t : TypeId) : Value → Option Value
  | .string s => match P.underlying t with
    | some .string => some (.int .i64 (s.data.toList.length : Nat))
    | _ => none
  | .slice _ n _ => match P.underlying t with
    | some (.slice _) => some (.int .i64 (n : Nat))
    | _ => none
  | .map none => match P.underlying t with
    | some (.map _ _) => some (.int .i64 0)
    | _ => none
  | .map (some id) => match P.underlying t with
    | some (.map _ _) => match h.get id with
      | some (.map es _ _) => some (.int .i64 (es.length : Nat))
      | _ => none
    | _ => none
  | _ => none
/-- A function of the program that has a body. -/
noncomputable def goesS (P : Program) (f : FuncId) (args : List Value) : Option SR :=
  match P.funcs[f]? with
  | some fn => match fn.body with
    | some _ => some (.call f args)
    | none => none
  | none => none
noncomputable def methodS (P : Program) (t : TypeId) (v : Value) (name : String) : Option (FuncId × Value) :=
  match P.info? t with
  | some i => match i.methods.toList.find? (fun m => m.name == name) with
    | some m => match m.path.toList with
      | [] => match m.func with
        | some (f, p) => match P.underlying t with
          | some d => match d with
            | .pointer _ => cond p (some (f, v)) none
            | _ => cond p none (some (f, v))
          | none => none
        | none => none
      | _ => none
    | none => none
  | none => none
/-- A value that may be missing. -/
noncomputable def evO (G : Nat) (T : Tr Value) : Option Operand → Option (Option Value)
  | none => some none
  | some x => match evS G T x with
    | some v => some (some v)
    | none => none
/-- The first of two answers. -/
noncomputable def orS (x y : Option Value) : Option Value := match x with
  | some v => some v
  | none => y
/-- x.(T), T no interface. -/
noncomputable def assertS (P : Program) (t : TypeId) (ok : Bool) : Value → Option Value
  | .iface u v => match P.underlying t with
    | some d => match d with
      | .interface _ => none
      | _ => cond (Nat.beq u t) (some (cond ok (.tuple #[v, .bool true]) v)) (cond ok (match P.info? t with
        | some i => match i.zero with
          | some z => cond (bare z) (some (.tuple #[z, .bool false])) none
          | none => none
        | none => none) none)
    | none => none
  | _ => none
/-- One operation. -/
noncomputable def opS (P : Program) (G : Nat) (T : Tr Value) (h : Tr SObj) (nx : Nat) (o : Oper) : Option SR :=
  let pure1 (x : Option Value) : Option SR := match x with
    | some v => some (.val v h nx)
    | none => none
  let made (x : Option (Value × Tr SObj)) : Option SR := match x with
    | some (v, h') => some (.val v h' (nx + 1))
    | none => none
  let wrote (x : Option (Tr SObj)) : Option SR := match x with
    | some h' => some (.val undef h' nx)
    | none => none
  match o.op with
  | .move x => pure1 (evS G T x)
  | .assign x => pure1 (evS G T x)
  | .pick c a b => match evS G T c with
    | some (.bool t) => match evS G T a, evS G T b with
      | some x, some y => some (.val (cond t x y) h nx)
      | _, _ => none
    | _ => none
  | .alloc t => made (allocS P h nx t)
  | .box t x => match evS G T x with
    | some v => made (boxS h nx t v)
    | none => none
  | .build t ps => match evP G T ps.toList with
    | some l => pure1 (buildS P t l)
    | none => none
  | .buildSlice t n ps => match evP G T ps.toList with
    | some l => cond (Nat.blt n capB) (made (buildSliceS P h nx t n l)) none
    | none => none
  | .load t x => match evS G T x with
    | some v => pure1 (loadS P h t v)
    | none => none
  | .store t x y => match evS G T x, evS G T y with
    | some v, some u => wrote (storeS P G h t u v)
    | _, _ => none
  | .nilCheck x => match evS G T x with
    | some v => pure1 (nilCheckS v)
    | none => none
  | .binOp op t x y _ => match evS G T x, evS G T y with
    | some v, some u => pure1 (binS P op t v u)
    | _, _ => none
  | .unOp op _ x => match evS G T x with
    | some v => pure1 (unS op v)
    | none => none
  | .convert s d x => match evS G T x with
    | some v => pure1 (orS (convS P s d v) (strOfS P h s d v))
    | none => none
  | .makeInterface t x => match evS G T x with
    | some v => match P.underlying t with
      | some (.interface _) => none
      | some _ => some (.val (.iface t v) h nx)
      | none => none
    | none => none
  | .makeFunc fn a b => match evL G T a.toList, evL G T b.toList with
    | some l, some m => some (.val (.func fn l.toArray m.toArray) h nx)
    | _, _ => none
  | .makeMap t none => cond (Nat.blt (nx + 1) capB) (some (.val (.map (some nx)) (h.set nx (.map [] [] 0)) (nx + 1))) none
  | .insert t m k v | .mapUpdate t m k v => match evS G T m, evS G T k, evS G T v with
    | some a, some b, some c => wrote (mapUpdateS P G h t a b c)
    | _, _, _ => none
  | .slice t x lo hi none => match evS G T x with
    | some v => match lo with
      | none => match hi with
        | none => pure1 (orS (sliceS P h t v none none) (sliceArrS P t v none none))
        | some b => match evS G T b with
          | some b => pure1 (orS (sliceS P h t v none (some b)) (sliceArrS P t v none (some b)))
          | none => none
      | some a => match evS G T a with
        | some a => match hi with
          | none => pure1 (orS (sliceS P h t v (some a) none) (sliceArrS P t v (some a) none))
          | some b => match evS G T b with
            | some b => pure1 (orS (sliceS P h t v (some a) (some b)) (sliceArrS P t v (some a) (some b)))
            | none => none
        | none => none
    | none => none
  | .slice t x lo hi (some q) => match evS G T x with
    | some v => match evO G T lo, evO G T hi, evO G T (some q) with
      | some a, some b, some c => pure1 (slice3S P h t v a b c)
      | _, _, _ => none
    | none => none
  | .range t x => match evS G T x with
    | some v => made (rangeS P h nx t v)
    | none => none
  | .next it q => match evS G T it with
    | some v => match nextS G h v q with
      | some (z, h') => some (.val z h' nx)
      | none => none
    | none => none
  | .entry it => match evS G T it with
    | some v => pure1 (entryS h v)
    | none => none
  | .typeAssert x _ t ok => match evS G T x with
    | some v => pure1 (assertS P t ok v)
    | none => none
  | .fieldAddr t x f => match evS G T x with
    | some v => pure1 (fieldAddrS P t v f)
    | none => none
  | .field t x f => match evS G T x with
    | some v => pure1 (fieldS P t v f)
    | none => none
  | .indexAddr t x i => match evS G T x, evS G T i with
    | some v, some u => pure1 (indexAddrS P t v u)
    | _, _ => none
  | .index t x i => match evS G T x, evS G T i with
    | some v, some u => pure1 (indexS P t v u)
    | _, _ => none
  | .lookup t x i ok => match evS G T x, evS G T i with
    | some v, some u => pure1 (lookupS P h t v u ok)
    | _, _ => none
  | .extract x i => match evS G T x with
    | some v => pure1 (extractS v i)
    | none => none
  | .call c => match c.callee with
    | .value x => match evS G T x with
      | some (.func (.func f) first captured) => match evL G T c.args.toList with
        | some l => goesS P f (first.toList ++ l ++ captured.toList)
        | none => none
      | _ => none
    | .invoke x name => match evS G T x with
      | some (.iface t v) => match methodS P t v name with
        | some (f, rc) => match evL G T c.args.toList with
          | some l => goesS P f (rc :: l)
          | none => none
        | none => none
      | _ => none
    | .builtin b => match b with
      | .len => match c.args.toList with
        | [x] => match evS G T x with
          | some v => match c.argTypes.toList with
            | [t] => pure1 (lenS P h t v)
            | _ => none
          | none => none
        | _ => none
      | .append => match c.args.toList with
        | [x, y] => match evS G T x, evS G T y with
          | some v, some u => match appendS P G h nx c.argTypes.toList v u with
            | some (z, h', n) => some (.val z h' n)
            | none => none
          | _, _ => none
        | _ => none
      | .copy => match c.args.toList with
        | [x, y] => match evS G T x, evS G T y with
          | some v, some u => match copyS P G h c.argTypes.toList v u with
            | some (z, h') => some (.val z h' nx)
            | none => none
          | _, _ => none
        | _ => none
      | .delete => match c.args.toList with
        | [x, y] => match evS G T x, evS G T y with
          | some v, some u => wrote (deleteS P G h c.argTypes.toList v u)
          | _, _ => none
        | _ => none
      | .clear => match c.args.toList with
        | [x] => match evS G T x with
          | some v => wrote (clearS P G h c.argTypes.toList v)
          | none => none
        | _ => none
      | .cap => match c.args.toList with
        | [x] => match evS G T x with
          | some v => match c.argTypes.toList with
            | [t] => pure1 (capS P t v)
            | _ => none
          | none => none
        | _ => none
      | .max => match evL G T c.args.toList with
        | some l => pure1 (mmS true l)
        | none => none
      | .min => match evL G T c.args.toList with
        | some l => pure1 (mmS false l)
        | none => none
      | _ => none
  | _ => none
/-- What an operation's run has come to. -/
def SR.Holds (G : Nat) (w0 : World) (r : Ren) (nx : Nat) (w : World) : SR → Result Next → Prop
  | .val v h' nx', res => ∃ r' w', ((res = .ok (.value (ren r' v)) w') ∨ (res = .ok .skip w' ∧ v = undef)) ∧ Agree nx r r' ∧ nx ≤ nx' ∧ Lt nx' v ∧ Den G w0 r' h' nx' w'
  | .call f args, res => res = .ok (.enter f (renL r args).toArray) w ∧ LtL nx args
end Go.Rn
/-
  A symbolic world: one operation answers as the model's. Condition: no function of the program is runtime.NumGoroutine.
-/
namespace Go.Rn
open Go.RowKit Go.MapKept
set_option linter.unusedVariables false
set_option linter.unusedSimpArgs false
variable {P : Program} {G : Nat} {w0 : World} {r : Ren} {h : Tr SObj} {nx : Nat} {w : World} {T : Tr Value} {a : Act}
/-- No function of the program is that one. -/
def NoNG (P : Program) : Prop := ∀ (f : FuncId) (fn : Func), P.funcs[f]? = some fn → (fn.name == "runtime.NumGoroutine") = false
theorem holds_pure (D : Den G w0 r h nx w) {s : Sem Value} {v : Value} (hr : s.run P w = .ok (ren r v) w ∧ Lt nx v) : (SR.val v h nx).Holds G w0 r nx w ((do pure (.value (← s)) : Sem Next).run P w) :=
  ⟨r, w, .inl (by simp only [Sem.run_bind, hr.1, Result.andThen_ok, Sem.run_pure]), Agree.refl _ _, Nat.le_refl _, hr.2, D⟩
theorem holds_move (D : Den G w0 r h nx w) {v x : Value} (hx : x = ren r v) (hl : Lt nx v) : (SR.val v h nx).Holds G w0 r nx w ((pure (.value x) : Sem Next).run P w) :=
  ⟨r, w, .inl (by rw [hx]; rfl), Agree.refl _ _, Nat.le_refl _, hl, D⟩
theorem holds_made {s : Sem Value} {v : Value} {h' : Tr SObj} {nx' : Nat} (hm : Made G w0 r nx w v h' nx' (s.run P w)) : (SR.val v h' nx').Holds G w0 r nx w ((do pure (.value (← s)) : Sem Next).run P w) := by
  obtain ⟨r', w', h1, h2, h3, h4, h5⟩ := hm
  exact ⟨r', w', .inl (by simp only [Sem.run_bind, h1, Result.andThen_ok, Sem.run_pure]), h2, h3, h4, h5⟩
theorem holds_wrote {s : Sem Unit} {h' : Tr SObj} (hm : ∃ w', s.run P w = .ok () w' ∧ Den G w0 r h' nx w') : (SR.val undef h' nx).Holds G w0 r nx w ((do s; pure .skip : Sem Next).run P w) := by
  obtain ⟨w', h1, h2⟩ := hm
  exact ⟨r, w', .inr ⟨by simp only [Sem.run_bind, h1, Result.andThen_ok, Sem.run_pure], rfl⟩, Agree.refl _ _, Nat.le_refl _, undef_lt _, h2⟩
theorem nilCheckS_sound {x u : Value} (hs : nilCheckS x = some u) : u = x ∧ ((∃ b, x = .pointer (some b)) ∨ (∃ f b c, x = .func (.func f) b c) ∨ ∃ t v, x = .iface t v) := by
  unfold nilCheckS at hs
  split at hs <;> cases hs
  · exact ⟨rfl, .inl ⟨_, rfl⟩⟩
  · exact ⟨rfl, .inr (.inl ⟨_, _, _, rfl⟩)⟩
  · exact ⟨rfl, .inr (.inr ⟨_, _, rfl⟩)⟩
theorem lenS_sound (D : Den G w0 r h nx w) {t : TypeId} {x u : Value} {ty : TypeId} (hs : lenS P h t x = some u) : (Builtin.len_ #[t] ty #[ren r x]).run P w = .ok (ren r u) w ∧ Lt nx u := by
  unfold lenS at hs
  split at hs
  · split at hs
    case h_2 => cases hs
    rename_i s _ hu
    cases hs
    refine ⟨?_, by simp [Lt]⟩
    simp only [ren]
    simp only [Builtin.len_, Sem.run_bind, run_underlying hu, Result.andThen_ok, List.getElem?_toArray, List.getElem?_cons_zero, Sem.run_pure, goInt, size_data]
  · split at hs
    case h_2 => cases hs
    rename_i b n c _ e hu
    cases hs
    refine ⟨?_, by simp [Lt]⟩
    cases b <;> simp only [ren, Builtin.len_, Sem.run_bind, run_underlying hu, Result.andThen_ok, List.getElem?_toArray, List.getElem?_cons_zero, Sem.run_pure, goInt]
  · split at hs
    case h_2 => cases hs
    rename_i _ kt e hu
    cases hs
    refine ⟨?_, by simp [Lt]⟩
    simp only [ren, Builtin.len_, Sem.run_bind, run_underlying hu, Result.andThen_ok, List.getElem?_toArray, List.getElem?_cons_zero, Sem.run_pure, goInt]
  · split at hs
    case h_2 => cases hs
    rename_i id _ kt e hu
    split at hs
    case h_2 => cases hs
    rename_i es bs cl hid
    cases hs
    refine ⟨?_, by simp [Lt]⟩
    obtain ⟨en, clock, hh, hl⟩ := map_at D hid
    have hsz : en.size = es.length := by rw [← hl.len, Array.length_toList]
    simp only [ren, Builtin.len_, Sem.run_bind, run_underlying hu, Result.andThen_ok, List.getElem?_toArray, List.getElem?_cons_zero, MapKept.run_getObj_map hh, Sem.run_pure, goInt, hsz]
  · cases hs
theorem goesS_sound (hng : NoNG P) {f : FuncId} {args : List Value} {s : SR} (hl : LtL nx args) (hs : goesS P f args = some s) {xs : Array Value} (hx : xs = (renL r args).toArray) : s.Holds G w0 r nx w ((callFunc f xs).run P w) := by
  unfold goesS at hs
  split at hs
  case h_2 => cases hs
  rename_i fn hf
  split at hs
  case h_2 => cases hs
  rename_i c hb
  cases hs
  subst hx
  refine ⟨?_, hl⟩
  unfold callFunc
  simp only [Sem.run_bind, program, Sem.run, Result.andThen_ok, hf, hng f fn hf, Bool.false_eq_true, if_false, hb, Option.isNone_some]
  rfl
theorem methodS_sound {t : TypeId} {v : Value} {name : String} {f : FuncId} {rc : Value} (hs : methodS P t v name = some (f, rc)) (n : Nat) (w : World) : (method (n + 1) t (ren r v) name).run P w = .ok (f, ren r rc) w ∧ rc = v := by
  unfold methodS at hs
  split at hs
  case h_2 => cases hs
  rename_i i hi
  split at hs
  case h_2 => cases hs
  rename_i m hm
  split at hs
  case h_2 => cases hs
  rename_i hp
  split at hs
  case h_2 => cases hs
  rename_i g p hf
  split at hs
  case h_2 => cases hs
  rename_i d hd
  rw [Array.find?_toList] at hm
  have hti : (typeInfo t).run P w = .ok i w := by simp [typeInfo, hi]
  split at hs
  · rename_i e
    cases p with
    | false => cases hs
    | true =>
      rw [cond_true] at hs
      cases hs
      refine ⟨?_, rfl⟩
      unfold method
      simp only [Sem.run_bind, hti, Result.andThen_ok, hm, hp, follow, Sem.run_pure, hf, receiverAt, run_underlying hd, Place.get]
  · rename_i hne
    cases p with
    | true => cases hs
    | false =>
      rw [cond_false] at hs
      cases hs
      refine ⟨?_, rfl⟩
      unfold method
      simp only [Sem.run_bind, hti, Result.andThen_ok, hm, hp, follow, Sem.run_pure, hf, receiverAt, run_underlying hd]
      cases d <;> first | (exact absurd rfl (hne _)) | simp only [Sem.run_bind, Place.get, Sem.run_pure, Result.andThen_ok]
theorem app_cons (x : Value) (l : List Value) : (#[x] ++ l.toArray : Array Value) = (x :: l).toArray := by
  apply Array.ext'
  simp
theorem app_head (x : Value) (l : List Value) : (#[x] ++ l.toArray : Array Value)[0]? = some x := by
  rw [app_cons, List.getElem?_toArray]; rfl
theorem args_ren {xs : Array Operand} {l : List Value} (hx : xs.toList.map a.eval = renL r l) : xs.map a.eval = (renL r l).toArray := by
  rw [← Array.toList_inj, Array.toList_map, hx]
theorem evL_on : ∀ {xs : List Operand} {l : List Value}, (∀ x, x ∈ xs → ∀ v, evS G T x = some v → a.eval x = ren r v ∧ Lt nx v) → evL G T xs = some l → xs.map a.eval = renL r l ∧ LtL nx l
  | [], l, E, hs => by
    have : ([] : List Value) = l := Option.some.inj hs
    subst this; simp [renL, LtL]
  | x :: xs, l, E, hs => by
    rw [evL_cons] at hs
    split at hs
    case h_2 => cases hs
    rename_i v hv
    split at hs
    case h_2 => cases hs
    rename_i m hm
    cases hs
    obtain ⟨e1, e2⟩ := E x (by simp) v hv
    obtain ⟨e3, e4⟩ := evL_on (fun y hy => E y (by simp [hy])) hm
    exact ⟨by rw [List.map_cons, e1, e3]; simp [renL], by simp only [LtL]; exact ⟨e2, e4⟩⟩
theorem evP_on : ∀ {xs : List (Nat × Operand)} {l : List (Nat × Value)}, (∀ x, x ∈ xs → ∀ v, evS G T x.2 = some v → a.eval x.2 = ren r v ∧ Lt nx v) → evP G T xs = some l → xs.map (fun x => (x.1, a.eval x.2)) = l.map (fun p => (p.1, ren r p.2)) ∧ ∀ p ∈ l, Lt nx p.2
  | [], l, E, hs => by
    have : ([] : List (Nat × Value)) = l := Option.some.inj hs
    subst this; simp
  | x :: xs, l, E, hs => by
    rw [evP_cons] at hs
    split at hs
    case h_2 => cases hs
    rename_i v hv
    split at hs
    case h_2 => cases hs
    rename_i m hm
    cases hs
    obtain ⟨e1, e2⟩ := E x (by simp) v hv
    obtain ⟨e3, e4⟩ := evP_on (fun y hy => E y (by simp [hy])) hm
    refine ⟨by rw [List.map_cons, List.map_cons, e1, e3], fun p hp => ?_⟩
    rcases List.mem_cons.1 hp with rfl | hp
    · exact e2
    · exact e4 p hp
theorem orS_some {x y : Option Value} {u : Value} (hs : orS x y = some u) : x = some u ∨ y = some u := by
  unfold orS at hs
  split at hs
  · exact .inl hs
  · exact .inr hs
theorem conv_sound (D : Den G w0 r h nx w) {s d : TypeId} {x u : Value} (hs : orS (convS P s d x) (strOfS P h s d x) = some u) (n : Nat) : (convert s d (ren r x)).run P w = .ok (ren r u) w ∧ Lt n u := by
  rcases orS_some hs with hs | hs
  · exact convS_sound hs n w
  · exact strOfS_sound D hs n
theorem slices_sound (D : Den G w0 r h nx w) {t : TypeId} {x u : Value} {lo hi : Option Value} (hx : Lt nx x) (hs : orS (sliceS P h t x lo hi) (sliceArrS P t x lo hi) = some u) : (Instr.sliceAt t (ren r x) (lo.map (ren r)) (hi.map (ren r)) none).run P w = .ok (ren r u) w ∧ Lt nx u := by
  rcases orS_some hs with hs | hs
  · exact sliceS_sound D hx hs
  · exact sliceArrS_sound hx hs w
theorem evO_on {x : Option Operand} {v : Option Value} (E : ∀ y, x = some y → ∀ v, evS G T y = some v → a.eval y = ren r v ∧ Lt nx v) (hs : evO G T x = some v) : x.map a.eval = v.map (ren r) := by
  cases x with
  | none => cases hs; rfl
  | some y =>
    unfold evO at hs
    simp only at hs
    split at hs <;> cases hs
    rename_i u hu
    simp only [Option.map_some, (E y rfl u hu).1]
theorem assertS_sound {t : TypeId} {ok : Bool} {x u : Value} (hx : Lt nx x) (hs : assertS P t ok x = some u) (xt : TypeId) (w : World) : (Instr.typeAssert (ren r x) xt t ok).run P w = .ok (ren r u) w ∧ Lt nx u := by
  unfold assertS at hs
  split at hs
  case h_2 => cases hs
  rename_i v0 v
  split at hs
  case h_2 => cases hs
  rename_i d hd
  split at hs
  · cases hs
  rename_i hne
  have key : ∀ (z : Sem Value), (∀ (w : World), z.run P w = (Instr.typeAssert (ren r (.iface v0 v)) xt t ok).run P w) → True := fun _ _ => trivial
  clear key
  simp only [Lt] at hx
  unfold Instr.typeAssert
  simp only [Sem.run_bind, run_underlying hd, Result.andThen_ok, ren]
  cases hb : Nat.beq v0 t with
  | true =>
    have e : v0 = t := Nat.eq_of_beq_eq_true hb
    subst e
    rw [hb, cond_true] at hs
    cases hs
    cases ok with
    | true =>
      refine ⟨?_, by simp only [cond_true, Lt, LtA, LtL]; exact ⟨hx, trivial, trivial⟩⟩
      cases d <;> first | (exact absurd rfl (hne _)) | simp [Sem.run_pure, ren, renA, renL]
    | false =>
      refine ⟨?_, by simpa only [cond_false] using hx⟩
      cases d <;> first | (exact absurd rfl (hne _)) | simp [Sem.run_pure]
  | false =>
    have e : v0 ≠ t := fun e => by
      subst e
      have : Nat.beq v0 v0 = true := by simp
      rw [this] at hb; cases hb
    rw [hb, cond_false] at hs
    cases ok with
    | false => cases hs
    | true =>
      rw [cond_true] at hs
      split at hs
      case h_2 => cases hs
      rename_i i hi
      split at hs
      case h_2 => cases hs
      rename_i z hz
      cases hbz : bare z with
      | false => rw [hbz] at hs; cases hs
      | true =>
        rw [hbz, cond_true] at hs
        cases hs
        have hrz := bare_ren (r := r) hbz
        refine ⟨?_, by simp only [Lt, LtA, LtL]; exact ⟨bare_lt hbz, trivial, trivial⟩⟩
        cases d <;> first | (exact absurd rfl (hne _)) | simp [Sem.run_pure, Sem.run_bind, ren, renA, renL, e, run_zero hi hz, hrz]
theorem opS_sound (hng : NoNG P) (D : Den G w0 r h nx w) {o : Oper} (E : ∀ x, x ∈ o.op.operands → ∀ v, evS G T x = some v → a.eval x = ren r v ∧ Lt nx v) {s : SR} (hs : opS P G T h nx o = some s) : s.Holds G w0 r nx w ((execOp a.eval o).run P w) := by
  unfold opS at hs
  unfold execOp
  simp only at hs
  split at hs
  · rename_i x ho
    split at hs <;> cases hs
    rename_i v hv
    obtain ⟨e1, e2⟩ := E _ (by rw [ho]; simp [Op.operands]) _ hv
    simp only [ho]
    exact holds_move D e1 e2
  · rename_i x ho
    split at hs <;> cases hs
    rename_i v hv
    obtain ⟨e1, e2⟩ := E _ (by rw [ho]; simp [Op.operands]) _ hv
    simp only [ho]
    exact holds_move D e1 e2
  · rename_i c x y ho
    split at hs
    case h_2 => cases hs
    rename_i t hc
    split at hs
    case h_2 => cases hs
    rename_i u v hu hv
    cases hs
    obtain ⟨e1, e2⟩ := E _ (by rw [ho]; simp [Op.operands]) _ hc
    obtain ⟨e3, e4⟩ := E _ (by rw [ho]; simp [Op.operands]) _ hu
    obtain ⟨e5, e6⟩ := E _ (by rw [ho]; simp [Op.operands]) _ hv
    simp only [ho]
    refine ⟨r, w, .inl ?_, Agree.refl _ _, Nat.le_refl _, by cases t <;> assumption, D⟩
    simp only [Sem.run_bind, e1, ren, asBool, Sem.run_pure, Result.andThen_ok, e3, e5]
    cases t <;> rfl
  · rename_i t ho
    split at hs <;> cases hs
    rename_i v h' hv
    simp only [ho]
    exact holds_made (allocS_sound D hv)
  · rename_i t x ho
    split at hs
    case h_2 => cases hs
    rename_i v hv
    split at hs <;> cases hs
    rename_i u h' hu
    obtain ⟨e1, e2⟩ := E _ (by rw [ho]; simp [Op.operands]) _ hv
    simp only [ho, e1]
    exact holds_made (boxS_sound D e2 hu)
  · rename_i t ps ho
    split at hs
    case h_2 => cases hs
    rename_i l hl
    split at hs <;> cases hs
    rename_i u hu
    obtain ⟨e1, e2⟩ := evP_on (fun x hx2 v => E x.2 (by rw [ho]; simp only [Op.operands]; rw [← Array.mem_toList_iff]; exact List.mem_map.2 ⟨x, hx2, rfl⟩) v) hl
    simp only [ho]
    exact holds_pure D (buildS_sound e2 hu (by rw [Array.toList_map]; exact e1) w)
  · rename_i t n ps ho
    split at hs
    case h_2 => cases hs
    rename_i l hl
    cases hn : Nat.blt n capB with
    | false => rw [hn] at hs; cases hs
    | true =>
      rw [hn, cond_true] at hs
      split at hs <;> cases hs
      rename_i u h' hu
      obtain ⟨e1, e2⟩ := evP_on (fun x hx2 v => E x.2 (by rw [ho]; simp only [Op.operands]; rw [← Array.mem_toList_iff]; exact List.mem_map.2 ⟨x, hx2, rfl⟩) v) hl
      simp only [ho]
      exact holds_made (buildSliceS_sound D (blt_lt hn) e2 hu (by rw [Array.toList_map]; exact e1))
  · rename_i t x ho
    split at hs
    case h_2 => cases hs
    rename_i v hv
    split at hs <;> cases hs
    rename_i u hu
    obtain ⟨e1, e2⟩ := E _ (by rw [ho]; simp [Op.operands]) _ hv
    simp only [ho, e1]
    exact holds_pure D (loadS_sound D hu)
  · rename_i t x y ho
    split at hs
    case h_2 => cases hs
    rename_i v u hv hu
    split at hs <;> cases hs
    rename_i h' hw
    obtain ⟨e1, e2⟩ := E _ (by rw [ho]; simp [Op.operands]) _ hv
    obtain ⟨e3, e4⟩ := E _ (by rw [ho]; simp [Op.operands]) _ hu
    simp only [ho, e1, e3]
    exact holds_wrote (storeS_sound D e4 hw)
  · rename_i x ho
    split at hs
    case h_2 => cases hs
    rename_i v hv
    split at hs <;> cases hs
    rename_i u hu
    obtain ⟨e1, e2⟩ := E _ (by rw [ho]; simp [Op.operands]) _ hv
    obtain ⟨rfl, hc⟩ := nilCheckS_sound hu
    simp only [ho, e1]
    rcases hc with ⟨b, rfl⟩ | ⟨f, b, c, rfl⟩ | ⟨t, v, rfl⟩
    · exact holds_move D (by simp only [ren]) e2
    · exact holds_move D (by simp only [ren]) e2
    · exact holds_move D (by simp only [ren]) e2
  · rename_i op t x y yt ho
    split at hs
    case h_2 => cases hs
    rename_i v u hv hu
    split at hs <;> cases hs
    rename_i z hz
    obtain ⟨e1, e2⟩ := E _ (by rw [ho]; simp [Op.operands]) _ hv
    obtain ⟨e3, e4⟩ := E _ (by rw [ho]; simp [Op.operands]) _ hu
    simp only [ho, e1, e3]
    exact holds_pure D (binS_sound hz nx w)
  · rename_i op t x ho
    split at hs
    case h_2 => cases hs
    rename_i v hv
    split at hs <;> cases hs
    rename_i u hu
    obtain ⟨e1, e2⟩ := E _ (by rw [ho]; simp [Op.operands]) _ hv
    simp only [ho, e1]
    exact holds_pure D (unS_sound hu nx w)
  · rename_i sr ds x ho
    split at hs
    case h_2 => cases hs
    rename_i v hv
    split at hs <;> cases hs
    rename_i u hu
    obtain ⟨e1, e2⟩ := E _ (by rw [ho]; simp [Op.operands]) _ hv
    simp only [ho, e1]
    exact holds_pure D (conv_sound D hu nx)
  · rename_i t x ho
    split at hs
    case h_2 => cases hs
    rename_i v hv
    split at hs
    · cases hs
    · rename_i d hne hd
      cases hs
      obtain ⟨e1, e2⟩ := E _ (by rw [ho]; simp [Op.operands]) _ hv
      simp only [ho, e1]
      refine holds_pure D ⟨?_, by simp only [Lt]; exact e2⟩
      simp only [Instr.makeInterface, Sem.run_bind, run_underlying hd, Result.andThen_ok, ren]
      cases d <;> first | rfl | (exact absurd rfl (hne _))
    · cases hs
  · rename_i fn b c ho
    split at hs
    case h_2 => cases hs
    rename_i l m hl hm
    cases hs
    obtain ⟨e1, e2⟩ := evL_on (fun x hx2 v => E x (by rw [ho]; simp at hx2; simp [Op.operands, hx2]) v) hl
    obtain ⟨e3, e4⟩ := evL_on (fun x hx2 v => E x (by rw [ho]; simp at hx2; simp [Op.operands, hx2]) v) hm
    simp only [ho]
    refine holds_pure D ⟨?_, by simp only [Lt, LtA]; exact ⟨e2, e4⟩⟩
    rw [args_ren e1, args_ren e3]
    simp only [Instr.makeFunc, Sem.run_pure, ren, renA]
  · rename_i t ho
    cases hb : Nat.blt (nx + 1) capB with
    | false => rw [hb] at hs; cases hs
    | true =>
      rw [hb, cond_true] at hs
      cases hs
      simp only [ho, Option.map_none]
      exact holds_made (makeMapS_sound D hb t)
  · rename_i t m k v ho
    split at hs
    case h_2 => cases hs
    rename_i x y z hx hy hz
    split at hs <;> cases hs
    rename_i h' hw
    obtain ⟨e1, e2⟩ := E _ (by rw [ho]; simp [Op.operands]) _ hx
    obtain ⟨e3, e4⟩ := E _ (by rw [ho]; simp [Op.operands]) _ hy
    obtain ⟨e5, e6⟩ := E _ (by rw [ho]; simp [Op.operands]) _ hz
    simp only [ho, e1, e3, e5]
    exact holds_wrote (mapUpdateS_sound D e4 e6 hw)
  · rename_i t m k v ho
    split at hs
    case h_2 => cases hs
    rename_i x y z hx hy hz
    split at hs <;> cases hs
    rename_i h' hw
    obtain ⟨e1, e2⟩ := E _ (by rw [ho]; simp [Op.operands]) _ hx
    obtain ⟨e3, e4⟩ := E _ (by rw [ho]; simp [Op.operands]) _ hy
    obtain ⟨e5, e6⟩ := E _ (by rw [ho]; simp [Op.operands]) _ hz
    simp only [ho, e1, e3, e5]
    exact holds_wrote (mapUpdateS_sound D e4 e6 hw)
  · rename_i t x lo hi ho
    split at hs
    case h_2 => cases hs
    rename_i v hv
    obtain ⟨e1, e2⟩ := E _ (by rw [ho]; simp [Op.operands]) _ hv
    simp only [ho, e1, Option.map_none]
    split at hs
    · split at hs
      · split at hs <;> cases hs
        rename_i u hu
        exact holds_pure D (slices_sound D e2 hu)
      · split at hs
        case h_2 => cases hs
        rename_i b' b hb
        split at hs <;> cases hs
        rename_i u hu
        obtain ⟨e3, e4⟩ := E _ (by rw [ho]; simp [Op.operands]) _ hb
        simp only [Option.map_some, Option.map_none, e3]
        exact holds_pure D (slices_sound D e2 hu)
    · split at hs
      case h_2 => cases hs
      rename_i c' c hc
      obtain ⟨e5, e6⟩ := E _ (by rw [ho]; simp [Op.operands]) _ hc
      split at hs
      · split at hs <;> cases hs
        rename_i u hu
        simp only [Option.map_some, Option.map_none, e5]
        exact holds_pure D (slices_sound D e2 hu)
      · split at hs
        case h_2 => cases hs
        rename_i b' b hb
        split at hs <;> cases hs
        rename_i u hu
        obtain ⟨e3, e4⟩ := E _ (by rw [ho]; simp [Op.operands]) _ hb
        simp only [Option.map_some, e3, e5]
        exact holds_pure D (slices_sound D e2 hu)
  · rename_i t x lo hi q ho
    split at hs
    case h_2 => cases hs
    rename_i v hv
    obtain ⟨e1, e2⟩ := E _ (by rw [ho]; simp [Op.operands]) _ hv
    split at hs
    case h_2 => cases hs
    rename_i b1 b2 b3 h1 h2 h3
    split at hs <;> cases hs
    rename_i u hu
    have g1 := evO_on (a := a) (r := r) (nx := nx) (fun y hy v => E y (by rw [ho]; simp [Op.operands, hy]) v) h1
    have g2 := evO_on (a := a) (r := r) (nx := nx) (fun y hy v => E y (by rw [ho]; simp [Op.operands, hy]) v) h2
    have g3 := evO_on (a := a) (r := r) (nx := nx) (fun y hy v => E y (by rw [ho]; simp [Op.operands, hy]) v) h3
    simp only [ho, e1, g1, g2, g3]
    exact holds_pure D (slice3S_sound D e2 hu)
  · rename_i t x ho
    split at hs
    case h_2 => cases hs
    rename_i v hv
    split at hs <;> cases hs
    rename_i u h' hu
    obtain ⟨e1, e2⟩ := E _ (by rw [ho]; simp [Op.operands]) _ hv
    simp only [ho, e1]
    exact holds_made (rangeS_sound D hu)
  · rename_i it q ho
    split at hs
    case h_2 => cases hs
    rename_i v hv
    split at hs <;> cases hs
    rename_i z h' hz
    obtain ⟨e1, e2⟩ := E _ (by rw [ho]; simp [Op.operands]) _ hv
    obtain ⟨w', f1, f2, f3⟩ := nextS_sound (P := P) D hz o.type
    simp only [ho, e1]
    exact ⟨r, w', .inl (by simp only [Sem.run_bind, f1, Result.andThen_ok, Sem.run_pure]), Agree.refl _ _, Nat.le_refl _, f2, f3⟩
  · rename_i it ho
    split at hs
    case h_2 => cases hs
    rename_i v hv
    split at hs <;> cases hs
    rename_i u hu
    obtain ⟨e1, e2⟩ := E _ (by rw [ho]; simp [Op.operands]) _ hv
    simp only [ho, e1]
    exact holds_pure D (entryS_sound D hu)
  · rename_i x xt t ok ho
    split at hs
    case h_2 => cases hs
    rename_i v hv
    split at hs <;> cases hs
    rename_i u hu
    obtain ⟨e1, e2⟩ := E _ (by rw [ho]; simp [Op.operands]) _ hv
    simp only [ho, e1]
    exact holds_pure D (assertS_sound e2 hu _ w)
  · rename_i t x f ho
    split at hs
    case h_2 => cases hs
    rename_i v hv
    split at hs <;> cases hs
    rename_i u hu
    obtain ⟨e1, e2⟩ := E _ (by rw [ho]; simp [Op.operands]) _ hv
    simp only [ho, e1]
    exact holds_pure D (fieldAddrS_sound e2 hu w)
  · rename_i t x f ho
    split at hs
    case h_2 => cases hs
    rename_i v hv
    split at hs <;> cases hs
    rename_i u hu
    obtain ⟨e1, e2⟩ := E _ (by rw [ho]; simp [Op.operands]) _ hv
    simp only [ho, e1]
    exact holds_pure D (fieldS_sound e2 hu w)
  · rename_i t x i ho
    split at hs
    case h_2 => cases hs
    rename_i v u hv hu
    split at hs <;> cases hs
    rename_i z hz
    obtain ⟨e1, e2⟩ := E _ (by rw [ho]; simp [Op.operands]) _ hv
    obtain ⟨e3, e4⟩ := E _ (by rw [ho]; simp [Op.operands]) _ hu
    simp only [ho, e1, e3]
    exact holds_pure D (indexAddrS_sound e2 hz w)
  · rename_i t x i ho
    split at hs
    case h_2 => cases hs
    rename_i v u hv hu
    split at hs <;> cases hs
    rename_i z hz
    obtain ⟨e1, e2⟩ := E _ (by rw [ho]; simp [Op.operands]) _ hv
    obtain ⟨e3, e4⟩ := E _ (by rw [ho]; simp [Op.operands]) _ hu
    simp only [ho, e1, e3]
    exact holds_pure D (indexS_sound e2 hz w)
  · rename_i t x i ok ho
    split at hs
    case h_2 => cases hs
    rename_i v u hv hu
    split at hs <;> cases hs
    rename_i z hz
    obtain ⟨e1, e2⟩ := E _ (by rw [ho]; simp [Op.operands]) _ hv
    obtain ⟨e3, e4⟩ := E _ (by rw [ho]; simp [Op.operands]) _ hu
    simp only [ho, e1, e3]
    exact holds_pure D (lookupS_sound D hz)
  · rename_i x i ho
    split at hs
    case h_2 => cases hs
    rename_i v hv
    split at hs <;> cases hs
    rename_i u hu
    obtain ⟨e1, e2⟩ := E _ (by rw [ho]; simp [Op.operands]) _ hv
    simp only [ho, e1]
    exact holds_pure D (extractS_sound e2 hu w)
  · rename_i c ho
    simp only [ho]
    split at hs
    · rename_i x hcal
      split at hs
      case h_2 => cases hs
      rename_i f first captured hx
      split at hs
      case h_2 => cases hs
      rename_i l hl
      obtain ⟨e1, e2⟩ := E _ (by rw [ho]; simp [Op.operands, Call.operands, hcal]) _ hx
      obtain ⟨e3, e4⟩ := evL_on (fun x hx2 v => E x (by rw [ho]; simp only [Op.operands, Call.operands]; rw [← Array.mem_toList_iff, Array.toList_append]; exact List.mem_append_right _ hx2) v) hl
      simp only [Lt, LtA_iff] at e2
      have hargs := args_ren (xs := c.args) e3
      simp only [resolve, hcal, e1, ren, Deferred.ofValue, Sem.run_bind, Sem.run_pure, Result.andThen_ok, invoke]
      refine goesS_sound hng (((LtL_iff nx _).2 e2.1).app e4 |>.app ((LtL_iff nx _).2 e2.2)) hs ?_
      rw [← Array.toList_inj, hargs]
      simp only [Array.toList_append, toList_ren, renL_app]
    · rename_i x name hcal
      split at hs
      case h_2 => cases hs
      rename_i t v hx
      split at hs
      case h_2 => cases hs
      rename_i f rc hm
      split at hs
      case h_2 => cases hs
      rename_i l hl
      obtain ⟨e1, e2⟩ := E _ (by rw [ho]; simp [Op.operands, Call.operands, hcal]) _ hx
      obtain ⟨e3, e4⟩ := evL_on (fun x hx2 v => E x (by rw [ho]; simp only [Op.operands, Call.operands]; rw [← Array.mem_toList_iff, Array.toList_append]; exact List.mem_append_right _ hx2) v) hl
      simp only [Lt] at e2
      have hargs := args_ren (xs := c.args) e3
      have hd0 : 0 < Made.depth := by decide
      obtain ⟨n, hn⟩ : ∃ n, P.types.size + Made.depth = n + 1 := ⟨P.types.size + Made.depth - 1, by omega⟩
      obtain ⟨m1, rfl⟩ := methodS_sound (r := r) hm n w
      have hx0 : (#[ren r (.iface t rc)] ++ c.args.map a.eval)[0]? = some (ren r (.iface t rc)) := by rw [hargs]; exact app_head _ _
      have hx1 : (#[ren r (.iface t rc)] ++ c.args.map a.eval).extract 1 (#[ren r (.iface t rc)] ++ c.args.map a.eval).size = (renL r l).toArray := by
        rw [hargs, app_cons]
        apply Array.ext'
        simp
      have hxs : (#[ren r rc] ++ (renL r l).toArray : Array Value) = (renL r (rc :: l)).toArray := by
        apply Array.ext'
        simp [renL]
      have hg : s.Holds G w0 r nx w ((callFunc f (#[ren r rc] ++ (renL r l).toArray)).run P w) := goesS_sound hng (by simp only [LtL]; exact ⟨e2, e4⟩) hs hxs
      simp only [resolve, hcal, e1, Sem.run_bind, Sem.run_pure, Result.andThen_ok, invoke, hx0, hx1]
      simp only [callMethod, ren, program, Sem.run, Sem.run_bind, Result.andThen_ok, hn, m1]
      exact hg
    · rename_i b hcal
      split at hs
      · split at hs
        case h_2 => cases hs
        rename_i x hx
        split at hs
        case h_2 => cases hs
        rename_i v hv
        split at hs
        case h_2 => cases hs
        rename_i t ht
        split at hs <;> cases hs
        rename_i u hu
        obtain ⟨e1, e2⟩ := E _ (by rw [ho]; simp only [Op.operands, Call.operands]; rw [← Array.mem_toList_iff, Array.toList_append]; exact List.mem_append_right _ (by rw [hx]; simp)) _ hv
        have ha : c.args.map a.eval = #[ren r v] := by rw [← Array.toList_inj, Array.toList_map, hx]; simp [e1]
        have hat : c.argTypes = #[t] := by rw [← Array.toList_inj]; exact ht
        simp only [resolve, hcal, Sem.run_bind, Sem.run_pure, Result.andThen_ok, invoke, ha, hat]
        exact holds_pure D (lenS_sound D hu)
      · split at hs
        case h_2 => cases hs
        rename_i x y hx
        split at hs
        case h_2 => cases hs
        rename_i v u hv hu
        split at hs <;> cases hs
        rename_i z h' n hz
        obtain ⟨e1, e2⟩ := E _ (by rw [ho]; simp only [Op.operands, Call.operands]; rw [← Array.mem_toList_iff, Array.toList_append]; exact List.mem_append_right _ (by rw [hx]; simp)) _ hv
        obtain ⟨e3, e4⟩ := E _ (by rw [ho]; simp only [Op.operands, Call.operands]; rw [← Array.mem_toList_iff, Array.toList_append]; exact List.mem_append_right _ (by rw [hx]; simp)) _ hu
        have ha : c.args.map a.eval = #[ren r v, ren r u] := by rw [← Array.toList_inj, Array.toList_map, hx]; simp [e1, e3]
        simp only [resolve, hcal, Sem.run_bind, Sem.run_pure, Result.andThen_ok, invoke, ha]
        exact holds_made (appendS_sound D e2 hz)
      · split at hs
        case h_2 => cases hs
        rename_i x y hx
        split at hs
        case h_2 => cases hs
        rename_i v u hv hu
        split at hs <;> cases hs
        rename_i z h' hz
        obtain ⟨e1, e2⟩ := E _ (by rw [ho]; simp only [Op.operands, Call.operands]; rw [← Array.mem_toList_iff, Array.toList_append]; exact List.mem_append_right _ (by rw [hx]; simp)) _ hv
        obtain ⟨e3, e4⟩ := E _ (by rw [ho]; simp only [Op.operands, Call.operands]; rw [← Array.mem_toList_iff, Array.toList_append]; exact List.mem_append_right _ (by rw [hx]; simp)) _ hu
        have ha : c.args.map a.eval = #[ren r v, ren r u] := by rw [← Array.toList_inj, Array.toList_map, hx]; simp [e1, e3]
        simp only [resolve, hcal, Sem.run_bind, Sem.run_pure, Result.andThen_ok, invoke, ha, builtin]
        obtain ⟨w', f1, f2, f3⟩ := copyS_sound (P := P) D (ty := o.type) hz
        exact ⟨r, w', .inl (by rw [f1]; rfl), Agree.refl _ _, Nat.le_refl _, f2, f3⟩
      · split at hs
        case h_2 => cases hs
        rename_i x y hx
        split at hs
        case h_2 => cases hs
        rename_i v u hv hu
        split at hs <;> cases hs
        rename_i h' hz
        obtain ⟨e1, e2⟩ := E _ (by rw [ho]; simp only [Op.operands, Call.operands]; rw [← Array.mem_toList_iff, Array.toList_append]; exact List.mem_append_right _ (by rw [hx]; simp)) _ hv
        obtain ⟨e3, e4⟩ := E _ (by rw [ho]; simp only [Op.operands, Call.operands]; rw [← Array.mem_toList_iff, Array.toList_append]; exact List.mem_append_right _ (by rw [hx]; simp)) _ hu
        have ha : c.args.map a.eval = #[ren r v, ren r u] := by rw [← Array.toList_inj, Array.toList_map, hx]; simp [e1, e3]
        simp only [resolve, hcal, Sem.run_bind, Sem.run_pure, Result.andThen_ok, invoke, ha, builtin]
        obtain ⟨w', f1, f3⟩ := deleteS_sound (P := P) D (ty := o.type) hz
        exact ⟨r, w', .inl (by rw [f1]; rfl), Agree.refl _ _, Nat.le_refl _, undef_lt _, f3⟩
      · split at hs
        case h_2 => cases hs
        rename_i x hx
        split at hs
        case h_2 => cases hs
        rename_i v hv
        split at hs <;> cases hs
        rename_i h' hz
        obtain ⟨e1, e2⟩ := E _ (by rw [ho]; simp only [Op.operands, Call.operands]; rw [← Array.mem_toList_iff, Array.toList_append]; exact List.mem_append_right _ (by rw [hx]; simp)) _ hv
        have ha : c.args.map a.eval = #[ren r v] := by rw [← Array.toList_inj, Array.toList_map, hx]; simp [e1]
        simp only [resolve, hcal, Sem.run_bind, Sem.run_pure, Result.andThen_ok, invoke, ha, builtin]
        obtain ⟨w', f1, f3⟩ := clearS_sound (P := P) D (ty := o.type) hz
        exact ⟨r, w', .inl (by rw [f1]; rfl), Agree.refl _ _, Nat.le_refl _, undef_lt _, f3⟩
      · split at hs
        case h_2 => cases hs
        rename_i x hx
        split at hs
        case h_2 => cases hs
        rename_i v hv
        split at hs
        case h_2 => cases hs
        rename_i t ht
        split at hs <;> cases hs
        rename_i u hu
        obtain ⟨e1, e2⟩ := E _ (by rw [ho]; simp only [Op.operands, Call.operands]; rw [← Array.mem_toList_iff, Array.toList_append]; exact List.mem_append_right _ (by rw [hx]; simp)) _ hv
        have ha : c.args.map a.eval = #[ren r v] := by rw [← Array.toList_inj, Array.toList_map, hx]; simp [e1]
        have hat : c.argTypes = #[t] := by rw [← Array.toList_inj]; exact ht
        simp only [resolve, hcal, Sem.run_bind, Sem.run_pure, Result.andThen_ok, invoke, ha, hat]
        exact holds_pure D (capS_sound hu nx w)
      · split at hs
        case h_2 => cases hs
        rename_i l hl
        split at hs <;> cases hs
        rename_i u hu
        obtain ⟨e3, e4⟩ := evL_on (fun x hx2 v => E x (by rw [ho]; simp only [Op.operands, Call.operands]; rw [← Array.mem_toList_iff, Array.toList_append]; exact List.mem_append_right _ hx2) v) hl
        have hargs := args_ren (xs := c.args) e3
        simp only [resolve, hcal, Sem.run_bind, Sem.run_pure, Result.andThen_ok, invoke, hargs]
        exact holds_pure D (maxS_sound hu nx w)
      · split at hs
        case h_2 => cases hs
        rename_i l hl
        split at hs <;> cases hs
        rename_i u hu
        obtain ⟨e3, e4⟩ := evL_on (fun x hx2 v => E x (by rw [ho]; simp only [Op.operands, Call.operands]; rw [← Array.mem_toList_iff, Array.toList_append]; exact List.mem_append_right _ hx2) v) hl
        have hargs := args_ren (xs := c.args) e3
        simp only [resolve, hcal, Sem.run_bind, Sem.run_pure, Result.andThen_ok, invoke, hargs]
        exact holds_pure D (minS_sound hu nx w)
      · cases hs
  · cases hs
end Go.Rn
/-
  A symbolic world: regions in the text's order. Condition: no function of the program is runtime.NumGoroutine.
-/
namespace Go.Rn
open Go.RowKit Go.MapKept
set_option linter.unusedVariables false
set_option linter.unusedSimpArgs false
variable {P : Program} {G : Nat} {w0 : World} {r : Ren} {h : Tr SObj} {nx : Nat} {w : World} {T : Tr Value} {a : Act}
/-- How functions are called: what comes back, and the world behind it. -/
abbrev CallS := FuncId → List Value → Tr SObj → Nat → Option (Value × Tr SObj × Nat)
/-- What comes back is so. -/
def Back (G : Nat) (w0 : World) (r : Ren) (nx : Nat) (v : Value) (h' : Tr SObj) (nx' : Nat) (e : Ending) (w' : World) : Prop := ∃ r', e = .returned (ren r' v) ∧ Agree nx r r' ∧ nx ≤ nx' ∧ Lt nx' v ∧ Den G w0 r' h' nx' w'
def CallOk (P : Program) (G : Nat) (w0 : World) (call : CallS) : Prop := ∀ (f : FuncId) (args : List Value) (h : Tr SObj) (nx : Nat) (v : Value) (h' : Tr SObj) (nx' : Nat) (r : Ren) (w : World), call f args h nx = some (v, h', nx') → Den G w0 r h nx w → LtL nx args → Calls P f (renL r args).toArray w (Back G w0 r nx v h' nx')
/-- A frame of N values. -/
structure Frm (G : Nat) (N : Nat) (r : Ren) (nx : Nat) (T : Tr Value) (a : Act) : Prop where
  fit : Fits G r nx T a
  size : a.tmps.size = N
  defers : a.defers = []
noncomputable def putS (N : Nat) (T : Tr Value) (d : Option Tmp) (v : Value) : Option (Tr Value) :=
  match d with
  | none => some T
  | some d => cond (Nat.blt d N) (some (T.set d v)) none
theorem Fits.go {r' : Ren} {nx' : Nat} (F : Fits G r nx T a) (ha : Agree nx r r') (hn : nx ≤ nx') : Fits G r' nx' T a := by
  refine ⟨fun t => ?_, fun t v hv => (F.lt t v hv).mono hn⟩
  rw [F.val t]
  cases hv : T.get t with
  | none => rw [Option.getD_none, undef_ren, undef_ren]
  | some v => exact Lt.same ha (F.lt t v hv)
theorem putS_sound {N : Nat} (hN : N ≤ capB) {T' : Tr Value} {d : Option Tmp} {v : Value} (F : Frm G N r nx T a) (hv : Lt nx v) (hs : putS N T d v = some T') : Frm G N r nx T' (a.put d (ren r v)) := by
  unfold putS at hs
  split at hs
  · cases hs; exact F
  · rename_i d
    cases hb : Nat.blt d N with
    | false => rw [hb] at hs; cases hs
    | true =>
      rw [hb, cond_true] at hs
      cases hs
      have hd := blt_lt hb
      have hg : ∀ t, (T.set d v).get t = if d = t then some v else T.get t := fun t => Tr.get_set (Nat.lt_of_lt_of_le hd hN)
      refine ⟨⟨fun t => ?_, fun t u hu => ?_⟩, by simp [Act.put, F.size], F.defers⟩
      · rw [hg]
        show (a.tmps.setIfInBounds d (ren r v)).getD t undef = _
        by_cases e : d = t
        · subst e
          rw [if_pos rfl, Option.getD_some, Array.getD_eq_getD_getElem?, Array.getElem?_setIfInBounds_self, if_pos (by rw [F.size]; exact hd)]; rfl
        · rw [if_neg e, ← F.fit.val t, Array.getD_eq_getD_getElem?, Array.getD_eq_getD_getElem?, Array.getElem?_setIfInBounds_ne e]
      · rw [hg] at hu
        split at hu
        · cases hu; exact hv
        · exact F.fit.lt t u hu
/-- Is the operation carried out? -/
noncomputable def wantS (ops : List Oper) (T : Tr Value) (o : Oper) : Option Bool :=
  match o.guard with
  | none => some true
  | some (j, want) => match nth ops j with
    | some oj => match oj.dst with
      | some d => match T.get d with
        | some (.bool b) => some (cond b want (!want))
        | _ => none
      | none => none
    | none => none
theorem wantS_sound {ops : Array Oper} {o : Oper} {b : Bool} (F : Fits G r nx T a) (hs : wantS ops.toList T o = some b) : Region.wanted o (yielded ops a.tmps) = b := by
  unfold wantS at hs
  unfold Region.wanted
  split at hs
  · rename_i hg
    cases hs
    rw [hg]
  · rename_i j want hg
    split at hs
    case h_2 => cases hs
    rename_i oj hoj
    split at hs
    case h_2 => cases hs
    rename_i d hd
    split at hs
    case h_2 => cases hs
    rename_i c hc
    cases hs
    rw [nth_eq, Array.getElem?_toList] at hoj
    have hv := F.val d
    rw [hc] at hv
    simp only [Option.getD_some, ren] at hv
    have ht : a.tmps[d]? = some (.bool c) := by
      rw [Array.getD_eq_getD_getElem?] at hv
      cases hx : a.tmps[d]? with
      | none => rw [hx] at hv; simp [undef, noResult] at hv
      | some x => rw [hx] at hv; rw [← hv]; rfl
    have hy : yielded ops a.tmps j = some c := by
      unfold yielded
      simp only [hoj, Option.bind_some, hd, ht]
    simp only [hg, hy]
    cases c <;> cases want <;> rfl
/-- What an operation gives. -/
noncomputable def valS (P : Program) (G : Nat) (call : CallS) (T : Tr Value) (h : Tr SObj) (nx : Nat) (o : Oper) : Option (Value × Tr SObj × Nat) :=
  match opS P G T h nx o with
  | some (.val v h' nx') => some (v, h', nx')
  | some (.call f args) => call f args h nx
  | none => none
theorem valS_sound {call : CallS} (hng : NoNG P) (hcall : CallOk P G w0 call) (D : Den G w0 r h nx w) {o : Oper} (E : ∀ x, x ∈ o.op.operands → ∀ v, evS G T x = some v → a.eval x = ren r v ∧ Lt nx v) {v : Value} {h' : Tr SObj} {nx' : Nat} (hs : valS P G call T h nx o = some (v, h', nx')) {K : Act → World → Prop} {Q : Exit → Act → World → Prop}
    (hK : ∀ r' w', Agree nx r r' → nx ≤ nx' → Lt nx' v → Den G w0 r' h' nx' w' → K (a.put o.dst (ren r' v)) w') : o.wp P a w K Q := by
  unfold valS at hs
  unfold Oper.wp
  split at hs
  · rename_i v1 h1 n1 ho
    cases hs
    obtain ⟨r', w', hr, e1, e2, e3, e4⟩ := opS_sound hng D E ho
    rcases hr with hr | ⟨hr, rfl⟩
    · rw [hr]; exact hK r' w' e1 e2 e3 e4
    · rw [hr]
      have := hK r' w' e1 e2 e3 e4
      rwa [undef_ren] at this
  · rename_i f args ho
    obtain ⟨hr, hl⟩ := opS_sound hng D E ho
    rw [hr]
    refine (hcall f args h nx v h' nx' r w hs D hl).mono ?_
    rintro e w' ⟨r', rfl, e1, e2, e3, e4⟩
    exact hK r' w' e1 e2 e3 e4
  · cases hs
/-- A region in the text's order. -/
noncomputable def runL (P : Program) (G : Nat) (call : CallS) (N : Nat) (ops : List Oper) (L : List Oper) : Tr Value → Tr SObj → Nat → Option (Tr Value × Tr SObj × Nat) :=
  List.rec (motive := fun _ => Tr Value → Tr SObj → Nat → Option (Tr Value × Tr SObj × Nat)) (fun T h nx => some (T, h, nx))
    (fun o _ ih T h nx => match wantS ops T o with
      | some true => match valS P G call T h nx o with
        | some (v, h', nx') => match putS N T o.dst v with
          | some T' => ih T' h' nx'
          | none => none
        | none => none
      | some false => match putS N T o.dst undef with
        | some T' => ih T' h nx
        | none => none
      | none => none) L
theorem runL_cons (call : CallS) (N : Nat) (ops : List Oper) (o : Oper) (L : List Oper) (T : Tr Value) (h : Tr SObj) (nx : Nat) : runL P G call N ops (o :: L) T h nx = match wantS ops T o with
      | some true => match valS P G call T h nx o with
        | some (v, h', nx') => match putS N T o.dst v with
          | some T' => runL P G call N ops L T' h' nx'
          | none => none
        | none => none
      | some false => match putS N T o.dst undef with
        | some T' => runL P G call N ops L T' h nx
        | none => none
      | none => none := rfl
theorem runL_sound {call : CallS} (hng : NoNG P) (hcall : CallOk P G w0 call) {N : Nat} (hN : N ≤ capB) {ops : Array Oper} {Q : Exit → Act → World → Prop} : ∀ (L : List Oper) (T : Tr Value) (h : Tr SObj) (nx : Nat) (r : Ren) (a : Act) (w : World) (T' : Tr Value) (h' : Tr SObj) (nx' : Nat),
    runL P G call N ops.toList L T h nx = some (T', h', nx') → Den G w0 r h nx w → Frm G N r nx T a → (∀ r' a' w', Agree nx r r' → nx ≤ nx' → Den G w0 r' h' nx' w' → Frm G N r' nx' T' a' → Q .normal a' w') → wpList P ops Q L a w
  | [], T, h, nx, r, a, w, T', h', nx', hs, D, F, hQ => by
    have e : (T, h, nx) = (T', h', nx') := Option.some.inj hs
    cases e
    exact hQ r a w (Agree.refl _ _) (Nat.le_refl _) D F
  | o :: L, T, h, nx, r, a, w, T', h', nx', hs, D, F, hQ => by
    rw [runL_cons] at hs
    unfold wpList
    split at hs
    · rename_i hw
      rw [wantS_sound F.fit hw, if_pos rfl]
      split at hs
      case h_2 => cases hs
      rename_i v h1 n1 hv
      split at hs
      case h_2 => cases hs
      rename_i T1 hT
      refine .inl (valS_sound hng hcall D (fun x _ v hv => evS_sound D F.fit hv) hv fun r1 w1 e1 e2 e3 e4 => ?_)
      have F1 : Frm G N r1 n1 T a := ⟨F.fit.go e1 e2, F.size, F.defers⟩
      exact runL_sound hng hcall hN L T1 h1 n1 r1 _ w1 T' h' nx' hs e4 (putS_sound hN F1 e3 hT) fun r2 a2 w2 q1 q2 q3 q4 => hQ r2 a2 w2 (e1.trans e2 q1) (Nat.le_trans e2 q2) q3 q4
    · rename_i hw
      rw [wantS_sound F.fit hw, if_neg (by decide)]
      split at hs
      case h_2 => cases hs
      rename_i T1 hT
      have F1 := putS_sound hN F (undef_lt nx) hT
      rw [undef_ren] at F1
      exact runL_sound hng hcall hN L T1 h nx r _ w T' h' nx' hs D F1 hQ
    · cases hs
end Go.Rn
/-
  A symbolic world: regions that draw their order. Condition: no function of the program is runtime.NumGoroutine.
-/
namespace Go.Rn
open Go.RowKit Go.MapKept
set_option linter.unusedVariables false
set_option linter.unusedSimpArgs false
variable {P : Program} {G : Nat} {w0 : World} {r : Ren} {h : Tr SObj} {nx : Nat} {w : World} {T : Tr Value} {a : Act}
/-! ### are two values one? -/
mutual
def veq : Value → Value → Bool
  | .bool a, .bool b => a == b
  | .int k a, .int k' b => decide (k = k') && decide (a = b)
  | .string a, .string b => decide (a.data.toList = b.data.toList)
  | .pointer none, .pointer none => true
  | .pointer (some a), .pointer (some b) => decide (a = b)
  | .slice a n c, .slice b m d => decide (a = b) && Nat.beq n m && Nat.beq c d
  | .map a, .map b => decide (a = b)
  | .func f x y, .func g u v => decide (f = g) && veqA x u && veqA y v
  | .nilFunc, .nilFunc => true
  | .iface t v, .iface u x => Nat.beq t u && veq v x
  | .nilIface, .nilIface => true
  | .agg x, .agg y => veqA x y
  | .tuple x, .tuple y => veqA x y
  | _, _ => false
def veqA : Array Value → Array Value → Bool
  | ⟨l⟩, ⟨m⟩ => veqL l m
def veqL : List Value → List Value → Bool
  | [], [] => true
  | x :: l, y :: m => veq x y && veqL l m
  | _, _ => false
end
mutual
theorem veq_eq : ∀ {x y : Value}, veq x y = true → x = y
  | .bool a, y, h => by cases y <;> simp_all [veq]
  | .int k a, y, h => by cases y <;> simp_all [veq]
  | .string a, y, h => by
    cases y <;> simp [veq] at h
    rename_i b
    have : a = b := ByteArray.ext h
    rw [this]
  | .pointer none, y, h => by
    cases y <;> first | (simp [veq] at h; done) | (rename_i b; cases b <;> simp_all [veq])
  | .pointer (some a), y, h => by
    cases y <;> first | (simp [veq] at h; done) | (rename_i b; cases b <;> simp_all [veq])
  | .slice a n c, y, h => by cases y <;> simp_all [veq]
  | .map a, y, h => by cases y <;> simp_all [veq]
  | .func f x y, z, h => by
    cases z <;> simp [veq] at h
    obtain ⟨⟨h1, h2⟩, h3⟩ := h
    rw [h1, veqA_eq h2, veqA_eq h3]
  | .nilFunc, y, h => by cases y <;> simp_all [veq]
  | .iface t v, y, h => by
    cases y <;> simp [veq] at h
    rw [h.1, veq_eq h.2]
  | .nilIface, y, h => by cases y <;> simp_all [veq]
  | .agg x, y, h => by
    cases y <;> simp [veq] at h
    rw [veqA_eq h]
  | .tuple x, y, h => by
    cases y <;> simp [veq] at h
    rw [veqA_eq h]
  | .float _ _, y, h => by cases y <;> simp [veq] at h
  | .complex _ _ _, y, h => by cases y <;> simp [veq] at h
  | .chan _, y, h => by cases y <;> simp [veq] at h
theorem veqA_eq : ∀ {x y : Array Value}, veqA x y = true → x = y
  | ⟨l⟩, ⟨m⟩, h => by
    simp only [veqA] at h
    rw [veqL_eq h]
theorem veqL_eq : ∀ {x y : List Value}, veqL x y = true → x = y
  | [], [], h => rfl
  | x :: l, y :: m, h => by
    simp only [veqL, Bool.and_eq_true] at h
    rw [veq_eq h.1, veqL_eq h.2]
  | [], _ :: _, h => by simp [veqL] at h
  | _ :: _, [], h => by simp [veqL] at h
end
/-- What lies in a slot. -/
noncomputable def slot (T : Tr Value) (t : Tmp) : Value := match T.get t with
  | some v => v
  | none => undef
/-! ### the text's order, kept -/
structure Rec where
  T : Tr Value
  want : Bool
  acts : Bool
  v : Value
/-- May it act on the memory? -/
noncomputable def actK : Op → Bool
  | .alloc _ => true
  | .box _ _ => true
  | .buildSlice _ _ _ => true
  | .store _ _ _ => true
  | .makeMap _ _ => true
  | .insert _ _ _ _ => true
  | .mapUpdate _ _ _ _ => true
  | .range _ _ => true
  | .next _ _ => true
  | .call c => match c.callee with
    | .builtin .len => false
    | .builtin .cap => false
    | .builtin .max => false
    | .builtin .min => false
    | _ => true
  | _ => false
/-- One step: does it run; what it gives. -/
noncomputable def recS (P : Program) (G : Nat) (call : CallS) (ops : List Oper) (T : Tr Value) (h : Tr SObj) (nx : Nat) (o : Oper) : Option (Rec × Tr SObj × Nat) :=
  match wantS ops T o with
  | some true => match valS P G call T h nx o with
    | some (v, h', nx') => some (⟨T, true, actK o.op, v⟩, h', nx')
    | none => none
  | some false => some (⟨T, false, actK o.op, undef⟩, h, nx)
  | none => none
/-- All steps: their records; the worlds ahead of and behind each that acts; the last frame. -/
noncomputable def runD (P : Program) (G : Nat) (call : CallS) (N : Nat) (ops : List Oper) (L : List Oper) : Tr Value → Tr SObj → Nat → Option (List Rec × List (Tr SObj × Nat) × Tr Value) :=
  List.rec (motive := fun _ => Tr Value → Tr SObj → Nat → Option (List Rec × List (Tr SObj × Nat) × Tr Value)) (fun T h nx => some ([], [(h, nx)], T))
    (fun o _ ih T h nx => match recS P G call ops T h nx o with
      | some (q, h', nx') => match putS N T o.dst q.v with
        | some T' => match ih T' h' nx' with
          | some (Q, S, Te) => some (q :: Q, cond q.acts ((h, nx) :: S) S, Te)
          | none => none
        | none => none
      | none => none) L
theorem runD_cons (call : CallS) (N : Nat) (ops : List Oper) (o : Oper) (L : List Oper) (T : Tr Value) (h : Tr SObj) (nx : Nat) : runD P G call N ops (o :: L) T h nx = match recS P G call ops T h nx o with
      | some (q, h', nx') => match putS N T o.dst q.v with
        | some T' => match runD P G call N ops L T' h' nx' with
          | some (Q, S, Te) => some (q :: Q, cond q.acts ((h, nx) :: S) S, Te)
          | none => none
        | none => none
      | none => none := rfl
/-- How many of the first i act. -/
def cnt (Q : List Rec) (i : Nat) : Nat := ((Q.take i).filter (·.acts)).length
/-- The quiet operations leave the symbolic world alone. -/
theorem opS_quiet {o : Oper} (hq : actK o.op = false) {s : SR} (hs : opS P G T h nx o = some s) : ∃ v, s = .val v h nx := by
  unfold opS at hs
  simp only at hs
  split at hs
  all_goals first
    | (rename_i ho; rw [ho] at hq; simp [actK] at hq; done)
    | ((repeat' split at hs) <;> first | (cases hs; exact ⟨_, rfl⟩) | (cases hs; done) | (exfalso; simp_all [actK]; done) | skip)
end Go.Rn
/-
  A symbolic world: a run in the text's order, its records. No condition.
-/
namespace Go.Rn
open Go.RowKit Go.MapKept
set_option linter.unusedVariables false
set_option linter.unusedSimpArgs false
variable {P : Program} {G : Nat} {w0 : World} {r : Ren} {h : Tr SObj} {nx : Nat} {w : World} {T : Tr Value} {a : Act} {call : CallS} {N : Nat} {ops : List Oper}
theorem cnt_zero (Q : List Rec) : cnt Q 0 = 0 := by simp [cnt]
theorem cnt_cons (q : Rec) (Q : List Rec) (i : Nat) : cnt (q :: Q) (i + 1) = (cond q.acts 1 0) + cnt Q i := by
  unfold cnt
  rw [List.take_succ_cons]
  cases hq : q.acts
  · simp [hq]
  · simp [hq]; omega
theorem slot_put (hN : N ≤ capB) {T' : Tr Value} {d : Option Tmp} {v : Value} (hs : putS N T d v = some T') (t : Tmp) : slot T' t = if d = some t then v else slot T t := by
  unfold putS at hs
  split at hs
  · cases hs; simp
  · rename_i d
    cases hb : Nat.blt d N with
    | false => rw [hb] at hs; cases hs
    | true =>
      rw [hb, cond_true] at hs
      cases hs
      unfold slot
      rw [Tr.get_set (Nat.lt_of_lt_of_le (blt_lt hb) hN)]
      by_cases e : d = t
      · simp [e]
      · simp [e]
theorem recS_acts {o : Oper} {q : Rec} {h' : Tr SObj} {nx' : Nat} (hs : recS P G call ops T h nx o = some (q, h', nx')) : q.T = T ∧ q.acts = actK o.op ∧ (q.acts = false → h' = h ∧ nx' = nx) ∧ (q.want = false → h' = h ∧ nx' = nx ∧ q.v = undef) ∧ wantS ops T o = some q.want ∧ (q.want = true → valS P G call T h nx o = some (q.v, h', nx')) := by
  unfold recS at hs
  split at hs
  · rename_i hw
    split at hs
    case h_2 => cases hs
    rename_i v h1 n1 hv
    cases hs
    refine ⟨rfl, rfl, fun hq => ?_, fun hq => (by cases hq), hw, fun _ => hv⟩
    unfold valS at hv
    split at hv
    · rename_i ho
      obtain ⟨v', e⟩ := opS_quiet hq ho
      cases e; cases hv
      exact ⟨rfl, rfl⟩
    · rename_i ho
      obtain ⟨v', e⟩ := opS_quiet hq ho
      cases e
    · cases hv
  · rename_i hw
    cases hs
    exact ⟨rfl, rfl, fun _ => ⟨rfl, rfl⟩, fun _ => ⟨rfl, rfl, rfl⟩, hw, fun hq => (by cases hq)⟩
  · cases hs
theorem runD_step {o : Oper} {L : List Oper} {Q : List Rec} {S : List (Tr SObj × Nat)} {Te : Tr Value} (hs : runD P G call N ops (o :: L) T h nx = some (Q, S, Te)) : ∃ q h' nx' T' Q' S', recS P G call ops T h nx o = some (q, h', nx') ∧ putS N T o.dst q.v = some T' ∧ runD P G call N ops L T' h' nx' = some (Q', S', Te) ∧ Q = q :: Q' ∧ S = cond q.acts ((h, nx) :: S') S' := by
  rw [runD_cons] at hs
  split at hs
  case h_2 => cases hs
  rename_i q h' nx' hr
  split at hs
  case h_2 => cases hs
  rename_i T' hT
  split at hs
  case h_2 => cases hs
  rename_i Q' S' Te' hrest
  cases hs
  exact ⟨q, h', nx', T', Q', S', hr, hT, hrest, rfl, rfl⟩
theorem runD_head : ∀ {L : List Oper} {T : Tr Value} {h : Tr SObj} {nx : Nat} {Q : List Rec} {S : List (Tr SObj × Nat)} {Te : Tr Value}, runD P G call N ops L T h nx = some (Q, S, Te) → S[0]? = some (h, nx) ∧ Q.length = L.length ∧ S.length = (Q.filter (·.acts)).length + 1
  | [], T, h, nx, Q, S, Te, hs => by
    have e : ([], [(h, nx)], T) = (Q, S, Te) := Option.some.inj hs
    cases e; simp
  | o :: L, T, h, nx, Q, S, Te, hs => by
    obtain ⟨q, h', nx', T', Q', S', h1, h2, h3, rfl, rfl⟩ := runD_step hs
    obtain ⟨e1, e2, e3⟩ := runD_head h3
    cases hq : q.acts with
    | true => simp [e2, e3, hq]
    | false =>
      obtain ⟨rfl, rfl⟩ := (recS_acts h1).2.2.1 hq
      simp only [cond_false]
      exact ⟨e1, by simp [e2], by simp [e3, hq]⟩
theorem runD_at (hN : N ≤ capB) : ∀ {L : List Oper} {T : Tr Value} {h : Tr SObj} {nx : Nat} {Q : List Rec} {S : List (Tr SObj × Nat)} {Te : Tr Value}, runD P G call N ops L T h nx = some (Q, S, Te) → ∀ (i : Nat) (o : Oper) (q : Rec), L[i]? = some o → Q[i]? = some q → ∃ hi ni hi' ni', S[cnt Q i]? = some (hi, ni) ∧ recS P G call ops q.T hi ni o = some (q, hi', ni') ∧ S[cnt Q (i + 1)]? = some (hi', ni')
  | [], T, h, nx, Q, S, Te, hs, i, o, q, hi, hq => by simp at hi
  | o' :: L, T, h, nx, Q, S, Te, hs, i, o, q, hi, hq => by
    obtain ⟨q', h', nx', T', Q', S', h1, h2, h3, rfl, rfl⟩ := runD_step hs
    have hT := (recS_acts h1).1
    cases i with
    | zero =>
      simp only [List.getElem?_cons_zero, Option.some.injEq] at hi hq
      subst hi hq
      have e1 := (runD_head h3).1
      refine ⟨h, nx, h', nx', ?_, by rw [hT]; exact h1, ?_⟩
      · rw [cnt_zero]
        cases hq : q'.acts with
        | true => rfl
        | false =>
          obtain ⟨rfl, rfl⟩ := (recS_acts h1).2.2.1 hq
          exact e1
      · rw [cnt_cons, cnt_zero]
        cases hq : q'.acts with
        | true => exact e1
        | false => exact e1
    | succ i =>
      rw [List.getElem?_cons_succ] at hi hq
      obtain ⟨a1, a2, a3, a4, b1, b2, b3⟩ := runD_at hN h3 i o q hi hq
      refine ⟨a1, a2, a3, a4, ?_, b2, ?_⟩
      · rw [cnt_cons]
        cases hq : q'.acts with
        | true => simp only [cond_true]; rw [Nat.add_comm, List.getElem?_cons_succ]; exact b1
        | false => simp only [cond_false, Nat.zero_add]; exact b1
      · rw [cnt_cons]
        cases hq : q'.acts with
        | true => simp only [cond_true]; rw [Nat.add_comm, List.getElem?_cons_succ]; exact b3
        | false => simp only [cond_false, Nat.zero_add]; exact b3
/-- What lies in a slot ahead of operation i (behind all: i = the number of operations). -/
theorem runD_slot (hN : N ≤ capB) : ∀ {L : List Oper} {T : Tr Value} {h : Tr SObj} {nx : Nat} {Q : List Rec} {S : List (Tr SObj × Nat)} {Te : Tr Value}, runD P G call N ops L T h nx = some (Q, S, Te) → ∀ t : Tmp, (∀ (i : Nat) (q : Rec), Q[i]? = some q →
      ((∀ (j : Nat) (o : Oper), j < i → L[j]? = some o → o.dst ≠ some t) → slot q.T t = slot T t) ∧
      (∀ (j : Nat) (o : Oper) (p : Rec), j < i → L[j]? = some o → Q[j]? = some p → o.dst = some t → (∀ (k : Nat) (o' : Oper), j < k → L[k]? = some o' → o'.dst ≠ some t) → slot q.T t = p.v)) ∧
    ((∀ o : Oper, o ∈ L → o.dst ≠ some t) → slot Te t = slot T t) ∧ (∀ (j : Nat) (o : Oper) (p : Rec), L[j]? = some o → Q[j]? = some p → o.dst = some t → (∀ (k : Nat) (o' : Oper), j < k → L[k]? = some o' → o'.dst ≠ some t) → slot Te t = p.v)
  | [], T, h, nx, Q, S, Te, hs, t => by
    have e : ([], [(h, nx)], T) = (Q, S, Te) := Option.some.inj hs
    cases e
    exact ⟨fun i q hq => by simp at hq, fun _ => rfl, fun j o p ho => by simp at ho⟩
  | o' :: L, T, h, nx, Q, S, Te, hs, t => by
    obtain ⟨q', h', nx', T', Q', S', h1, h2, h3, rfl, rfl⟩ := runD_step hs
    have hT := (recS_acts h1).1
    have hp := slot_put hN h2 t
    obtain ⟨c1, c2, c3⟩ := runD_slot hN h3 t
    refine ⟨fun i q hq => ?_, fun hno => ?_, fun j o p ho hpj hd hlast => ?_⟩
    · cases i with
      | zero =>
        simp only [List.getElem?_cons_zero, Option.some.injEq] at hq
        subst hq
        exact ⟨fun _ => by rw [hT], fun j o p hj => by omega⟩
      | succ i =>
        rw [List.getElem?_cons_succ] at hq
        obtain ⟨d1, d2⟩ := c1 i q hq
        refine ⟨fun hno => ?_, fun j o p hj ho hpj hd hlast => ?_⟩
        · rw [d1 fun j o hj ho => hno (j + 1) o (by omega) (by rw [List.getElem?_cons_succ]; exact ho), hp, if_neg (hno 0 o' (by omega) rfl)]
        · cases j with
          | zero =>
            simp only [List.getElem?_cons_zero, Option.some.injEq] at ho hpj
            subst ho hpj
            rw [d1 fun j o hj ho => hlast (j + 1) o (by omega) (by rw [List.getElem?_cons_succ]; exact ho), hp, if_pos hd]
          | succ j =>
            rw [List.getElem?_cons_succ] at ho hpj
            exact d2 j o p (by omega) ho hpj hd fun k o2 hk ho2 => hlast (k + 1) o2 (by omega) (by rw [List.getElem?_cons_succ]; exact ho2)
    · rw [c2 fun o ho => hno o (by simp [ho]), hp, if_neg (hno o' (by simp))]
    · cases j with
      | zero =>
        simp only [List.getElem?_cons_zero, Option.some.injEq] at ho hpj
        subst ho hpj
        rw [c2 fun o ho => by
          obtain ⟨k, hk⟩ := List.getElem?_of_mem ho
          exact hlast (k + 1) o (by omega) (by rw [List.getElem?_cons_succ]; exact hk), hp, if_pos hd]
      | succ j =>
        rw [List.getElem?_cons_succ] at ho hpj
        exact c3 j o p ho hpj hd fun k o2 hk ho2 => hlast (k + 1) o2 (by omega) (by rw [List.getElem?_cons_succ]; exact ho2)
/-! ### what must come ahead -/
noncomputable def maskS (acc : List Nat) (i : Nat) (es : List Edge) : Option Nat :=
  List.rec (motive := fun _ => Option Nat) (some 0) (fun e _ ih => match ih with
    | none => none
    | some m => cond (Region.binds .any e) (cond (Nat.blt e.on i) (match nth acc e.on with
      | some k => some (m ||| 2 ^ e.on ||| k)
      | none => none) none) (some m)) es
theorem maskS_cons (acc : List Nat) (i : Nat) (e : Edge) (es : List Edge) : maskS acc i (e :: es) = match maskS acc i es with
    | none => none
    | some m => cond (Region.binds .any e) (cond (Nat.blt e.on i) (match nth acc e.on with
      | some k => some (m ||| 2 ^ e.on ||| k)
      | none => none) none) (some m) := rfl
theorem maskS_spec (acc : List Nat) (i : Nat) : ∀ (es : List Edge) (m : Nat), maskS acc i es = some m → (∀ e ∈ es, Region.binds .any e = true → e.on < i) ∧ ∀ j, m.testBit j = true → ∃ e ∈ es, Region.binds .any e = true ∧ (e.on = j ∨ ∃ k, acc[e.on]? = some k ∧ k.testBit j = true)
  | [], m, hs => by
    have e : 0 = m := Option.some.inj hs
    subst e; simp
  | e :: es, m, hs => by
    rw [maskS_cons] at hs
    split at hs
    · cases hs
    · rename_i m' hm
      obtain ⟨i1, i2⟩ := maskS_spec acc i es m' hm
      cases hb : Region.binds .any e with
      | false =>
        rw [hb, cond_false] at hs
        cases hs
        refine ⟨fun x hx hbx => ?_, fun j hj => ?_⟩
        · rcases List.mem_cons.1 hx with rfl | hx
          · rw [hb] at hbx; cases hbx
          · exact i1 x hx hbx
        · obtain ⟨x, hx, h1⟩ := i2 j hj
          exact ⟨x, by simp [hx], h1⟩
      | true =>
        rw [hb, cond_true] at hs
        cases hl : Nat.blt e.on i with
        | false => rw [hl] at hs; cases hs
        | true =>
          rw [hl, cond_true] at hs
          split at hs
          case h_2 => cases hs
          rename_i k hk
          cases hs
          rw [nth_eq] at hk
          refine ⟨fun x hx hbx => ?_, fun j hj => ?_⟩
          · rcases List.mem_cons.1 hx with rfl | hx
            · exact blt_lt hl
            · exact i1 x hx hbx
          · rw [Nat.testBit_or, Nat.testBit_or, Bool.or_eq_true, Bool.or_eq_true] at hj
            rcases hj with (hj | hj) | hj
            · obtain ⟨x, hx, h1⟩ := i2 j hj
              exact ⟨x, by simp [hx], h1⟩
            · refine ⟨e, by simp, hb, .inl ?_⟩
              rw [Nat.testBit_two_pow] at hj
              simpa using hj
            · exact ⟨e, by simp, hb, .inr ⟨k, hk, hj⟩⟩
noncomputable def ancS (L : List Oper) : List Nat → Nat → Option (List Nat) :=
  List.rec (motive := fun _ => List Nat → Nat → Option (List Nat)) (fun acc _ => some acc) (fun o _ ih acc i => match maskS acc i o.after.toList with
    | some m => ih (acc ++ [m]) (i + 1)
    | none => none) L
theorem ancS_cons (o : Oper) (L : List Oper) (acc : List Nat) (i : Nat) : ancS (o :: L) acc i = match maskS acc i o.after.toList with
    | some m => ancS L (acc ++ [m]) (i + 1)
    | none => none := rfl
theorem ancS_spec : ∀ (L : List Oper) (acc : List Nat) (M : List Nat), ancS L acc acc.length = some M → M.length = acc.length + L.length ∧ (∀ j, j < acc.length → M[j]? = acc[j]?) ∧ ∀ j o, L[j]? = some o → ∃ m, M[acc.length + j]? = some m ∧ (∀ e ∈ o.after.toList, Region.binds .any e = true → e.on < acc.length + j) ∧ ∀ b, m.testBit b = true → ∃ e ∈ o.after.toList, Region.binds .any e = true ∧ (e.on = b ∨ ∃ k, M[e.on]? = some k ∧ k.testBit b = true)
  | [], acc, M, hs => by
    have e : acc = M := Option.some.inj hs
    subst e; simp
  | o :: L, acc, M, hs => by
    rw [ancS_cons] at hs
    split at hs
    case h_2 => cases hs
    rename_i m hm
    have hlen : (acc ++ [m]).length = acc.length + 1 := by simp
    rw [← hlen] at hs
    obtain ⟨l1, l2, l3⟩ := ancS_spec L (acc ++ [m]) M hs
    obtain ⟨s1, s2⟩ := maskS_spec acc acc.length o.after.toList m hm
    have hpre : ∀ j, j < acc.length → M[j]? = acc[j]? := fun j hj => by
      rw [l2 j (by rw [hlen]; omega), List.getElem?_append_left hj]
    refine ⟨by rw [l1, hlen, List.length_cons]; omega, hpre, fun j o' hj => ?_⟩
    cases j with
    | zero =>
      simp only [List.getElem?_cons_zero, Option.some.injEq] at hj
      subst hj
      refine ⟨m, by rw [Nat.add_zero, l2 _ (by rw [hlen]; omega), List.getElem?_append_right (Nat.le_refl _)]; simp, s1, fun b hb => ?_⟩
      obtain ⟨e, he, hbe, hc⟩ := s2 b hb
      refine ⟨e, he, hbe, ?_⟩
      rcases hc with hc | ⟨k, hk, hb2⟩
      · exact .inl hc
      · exact .inr ⟨k, by rw [hpre _ (s1 e he hbe)]; exact hk, hb2⟩
    | succ j =>
      rw [List.getElem?_cons_succ] at hj
      obtain ⟨m', h1, h2, h3⟩ := l3 j o' hj
      rw [hlen, show acc.length + 1 + j = acc.length + (j + 1) by omega] at h1 h2
      exact ⟨m', h1, h2, h3⟩
end Go.Rn
