/-
  Merged texts (EC, ED, EE, EF, FA), part 5 of 12. Conditions: each part's own, told at its head.
-/
import Derived.Test.YtnljjlaececnkaaGreatDoorBMP1
import Derived.Test.YtnljjlaececnkaaGreatDoorBMP2
import Derived.Test.YtnljjlaececnkaaGreatDoorBMP3
import Derived.Test.YtnljjlaececnkaaGreatDoorBMP4
import Derived.Lib.ConvBytes
import Derived.Laws.BytesArg
import Derived.Laws.CopyOwn
/-
  (*strings.Replacer).build at the four texts of a word's quotation. No condition.
-/
namespace Go.Proofs.YtnljjlaececnkaaGreatDoor
open Go.RowKit
set_option linter.unusedVariables false
set_option linter.unusedSimpArgs false
theorem nil_eql (w : World) : (binOp .eql 150 (.slice none 0 0) (.slice none 0 0)).run Tryz.prog w = .ok (.bool true) w := by kernel_rfl
theorem nil_neq (w : World) : (binOp .neq 150 (.slice none 0 0) (.slice none 0 0)).run Tryz.prog w = .ok (.bool false) w := by kernel_rfl
theorem some_neq (w : World) (a : Addr) (l c : Nat) : (binOp .neq 150 (.slice (some a) l c) (.slice none 0 0)).run Tryz.prog w = .ok (.bool true) w := by kernel_rfl
theorem below_bytes (w : World) (s : ByteArray) : Below w.heap.size w (Lib.bytesWorld w 5 s) :=
  ⟨rfl, rfl, rfl, by rw [Lib.bytesWorld_size]; omega, fun k hk => Lib.bytesWorld_at_old w 5 s k hk⟩
theorem exec_s2b {o : Oper} {a : Act} {w : World} {x : Operand} {s : ByteArray} (ho : o.op = .convert 9 150 x) (hx : a.eval x = .string s) : (execOp a.eval o).run Tryz.prog w = .ok (.value (.slice (some ⟨w.heap.size, 0, none⟩) s.size (grownCap w s.size 0 5))) (Lib.bytesWorld w 5 s) := by
  unfold execOp
  have h := Lib.run_convert_string_bytes (P := Tryz.prog) w 9 150 5 s Tryz.underlying9 Tryz.underlying150 Tryz.underlying5
  simp only [ho, hx, Sem.run_bind, h, Sem.run_pure, Result.andThen_ok]
theorem b2s_at (w : World) (n : Int) {s : ByteArray} (hs : strOfNums [n] = s) : (convert 150 9 (.slice (some ⟨w.heap.size, 0, none⟩) 1 1)).run Tryz.prog (w.alloc (.cells #[.int .u8 n] 5)) = .ok (.string s) (w.alloc (.cells #[.int .u8 n] 5)) := by
  rw [← hs]
  exact run_convert_bytes_arg (P := Tryz.prog) _ 150 5 Tryz.underlying150 Tryz.underlying5 w.heap.size 0 1 1 [n] rfl (fun i hi => by
    obtain rfl : i = 0 := by omega
    simp) 9 Tryz.underlying9
theorem bytes_obj (w : World) (s : ByteArray) : ∃ o, (Lib.bytesWorld w 5 s).heap[w.heap.size]? = some o ∧ RowIn o (s.data.toList.map fun b => Value.int .u8 b.toNat) := by
  refine ⟨_, Lib.bytesWorld_at_new w 5 s, _, _, _, rfl, fun j v hj => ?_⟩
  unfold Lib.bytesCells
  have hlt := (List.getElem?_eq_some_iff.1 hj).1
  rw [Array.getElem?_append_left (by simpa using hlt)]
  rw [← Array.getElem?_toList, Array.toList_map]; exact hj
def nilS : Value := .slice none 0 0
/-- The rows of a byteStringReplacer: what stands for \", for \\, and the texts. -/
def n256 : List Value := List.replicate 256 nilS
theorem n256_len : n256.length = 256 := List.length_replicate
theorem n256_get (j : Nat) : n256[j]? = if j < 256 then some nilS else none := List.getElem?_replicate
def bsL (A B T : Value) : List Value := (n256.set 34 A).set 92 B ++ [T]
def oBS (A B T : Value) : Obj := .cells (bsL A B T).toArray 352 (0, 0)
theorem z352 : (Tryz.prog.info? 352).bind (·.zero) = some (.agg (bsL nilS nilS nilS).toArray) := by kernel_rfl
theorem size352 : (Tryz.prog.info? 352).map (·.size) = some 257 := by kernel_rfl
theorem built352 (A : Option Addr) (l c : Nat) : Tryz.prog.built 352 [(1, .slice A l c)] = some (bsL nilS nilS (.slice A l c)).toArray := by kernel_rfl
theorem bs_len2 (A B : Value) : ((n256.set 34 A).set 92 B).length = 256 := by rw [List.length_set, List.length_set, n256_len]
theorem bs_len (A B T : Value) : (bsL A B T).length = 257 := by unfold bsL; rw [List.length_append, bs_len2]; rfl
theorem bs_get {A B T : Value} (j : Nat) : (bsL A B T)[j]? = if j = 256 then some T else if j = 92 then some B else if j = 34 then some A else if j < 256 then some nilS else none := by
  unfold bsL
  by_cases h : j < 256
  · rw [List.getElem?_append_left (by rw [bs_len2]; exact h), if_neg (by omega), List.getElem?_set, List.getElem?_set, List.length_set, n256_len, n256_get]
    by_cases h1 : j = 92
    · subst h1; rw [if_pos rfl, if_pos (by omega), if_pos rfl]
    · rw [if_neg (by omega), if_neg h1]
      by_cases h2 : j = 34
      · subst h2; rw [if_pos rfl, if_pos (by omega), if_pos rfl]
      · rw [if_neg (by omega), if_neg h2]
  · rw [List.getElem?_append_right (by rw [bs_len2]; omega), bs_len2]
    by_cases h1 : j = 256
    · subst h1; rw [if_pos rfl]; rfl
    · rw [if_neg h1, if_neg (by omega), if_neg (by omega), if_neg h, List.getElem?_eq_none (by simp; omega)]
theorem bs_one (A B T : Value) (h1 : A.oneCell' = true) (h2 : B.oneCell' = true) (h3 : T.oneCell' = true) : (bsL A B T).toArray.all (·.oneCell') = true := by
  refine all_oneCell_toArray fun v hv => ?_
  obtain ⟨j, hj⟩ := List.mem_iff_getElem?.1 hv
  rw [bs_get] at hj
  split at hj
  · cases hj; exact h3
  · split at hj
    · cases hj; exact h2
    · split at hj
      · cases hj; exact h1
      · split at hj
        · cases hj; rfl
        · cases hj
theorem bs_set92 (A B T B' : Value) : (bsL A B T).set 92 B' = bsL A B' T := by
  apply List.ext_getElem?
  intro j
  rw [List.getElem?_set, bs_get, bs_get, bs_len]
  by_cases h : 92 = j
  · subst h; rw [if_pos rfl, if_pos (by omega)]; rfl
  · rw [if_neg h, if_neg (c := j = 92) (by omega), if_neg (c := j = 92) (by omega)]
theorem bs_set34 (A B T A' : Value) : (bsL A B T).set 34 A' = bsL A' B T := by
  apply List.ext_getElem?
  intro j
  rw [List.getElem?_set, bs_get, bs_get, bs_len]
  by_cases h : 34 = j
  · subst h; rw [if_pos rfl, if_pos (by omega)]; rfl
  · rw [if_neg h, if_neg (c := j = 34) (by omega), if_neg (c := j = 34) (by omega)]
theorem bs_setT (A B T T' : Value) : (bsL A B T).set 256 T' = bsL A B T' := by
  apply List.ext_getElem?
  intro j
  rw [List.getElem?_set, bs_get, bs_get, bs_len]
  by_cases h : 256 = j
  · subst h; rw [if_pos rfl, if_pos (by omega)]; rfl
  · rw [if_neg h, if_neg (c := j = 256) (by omega), if_neg (c := j = 256) (by omega)]
theorem wpList_make23 {ops : Array Oper} {rest : List Oper} {o : Oper} {a : Act} {w : World} {Q : Exit → Act → World → Prop} (hg : o.guard = none) (x y : Operand) (ho : o.op = .makeSlice 23 x y) (hx : a.eval x = .int .i64 0) (hy : a.eval y = .int .i64 2)
    (h : ∀ om : Obj, (w.alloc om).ownsRow 0 9 1 (.slice (some ⟨w.heap.size, 0, none⟩) 0 2) 0 [] → wpList Tryz.prog ops Q rest (a.put o.dst (.slice (some ⟨w.heap.size, 0, none⟩) 0 2)) (w.alloc om)) : wpList Tryz.prog ops Q (o :: rest) a w := by
  have h9 := Tryz.info9
  cases hi : Tryz.prog.info? 9 with
  | none => rw [hi] at h9; cases h9
  | some i =>
  rw [hi] at h9
  simp only [Option.map_some, Option.some.injEq, Prod.mk.injEq] at h9
  obtain ⟨hz, hs, hb⟩ := h9
  have hr := run_makeSlice (P := Tryz.prog) w 23 9 i (.string ⟨#[]⟩) Tryz.underlying23 hi hz .i64 .i64 0 2 (by decide) (by decide) (by rw [hs]; decide) (by rw [hb]; decide) (by decide)
  have hrun : (execOp a.eval o).run Tryz.prog w = .ok (.value (.slice (some ⟨w.heap.size, 0, none⟩) 0 2)) (w.alloc (.cells (madeCells (Value.string ⟨#[]⟩).cells ((2 : Int).toNat * i.size)) 9)) := by
    unfold execOp
    simp only [ho, hx, hy, Sem.run_bind, hr, Sem.run_pure, Result.andThen_ok]
    rfl
  exact wpList_run hg hrun (h _ (World.ownsRow_made w _ 2 (Nat.zero_le _) (by unfold maxLen; decide) (by rw [hs]; exact size_madeCells _ _)))
theorem wpList_s2b {ops : Array Oper} {rest : List Oper} {o : Oper} {a : Act} {w : World} {Q : Exit → Act → World → Prop} (hg : o.guard = none) (x : Operand) (ho : o.op = .convert 9 150 x) {s : ByteArray} (hx : a.eval x = .string s) {n : Nat} (hn : s.size = n)
    (h : ∀ (w' : World) (k c : Nat) (ob : Obj), w'.heap[k]? = some ob → RowIn ob (s.data.toList.map fun b => Value.int .u8 b.toNat) → w.heap.size ≤ k → Below w.heap.size w w' → wpList Tryz.prog ops Q rest (a.put o.dst (.slice (some ⟨k, 0, none⟩) n c)) w') : wpList Tryz.prog ops Q (o :: rest) a w := by
  subst hn
  obtain ⟨ob, h1, h2⟩ := bytes_obj w s
  exact wpList_run hg (exec_s2b ho hx) (h _ _ _ ob h1 h2 (Nat.le_refl _) (below_bytes w s))
theorem wpList_putS {ops : Array Oper} {rest : List Oper} {o : Oper} {a : Act} {w : World} {Q : Exit → Act → World → Prop} (hg : o.guard = none) (t : TypeId) (x y : Operand) (ho : o.op = .store t x y) {g j l c : Nat} {A : Option Addr} (hx : a.eval x = .pointer (some ⟨g, j, none⟩)) (hy : a.eval y = .slice A l c)
    {row row' : List Value} {ty : TypeId} (hrow : w.heap[g]? = some (.cells row.toArray ty (0, 0))) (hj : j < row.length) (hi : (Tryz.prog.info? t).map (·.size) = some 1) (hr' : row.set j (.slice A l c) = row')
    (h : ∀ w' : World, w'.heap[g]? = some (.cells row'.toArray ty (0, 0)) → Fr (fun b => b = g) w w' → wpList Tryz.prog ops Q rest (a.put o.dst undef) w') : wpList Tryz.prog ops Q (o :: rest) a w := by
  subst hr'
  have hc : w.cell? ⟨g, j, none⟩ = some row[j] := (row_cell hrow).trans (by rw [List.getElem?_toArray]; exact List.getElem?_eq_getElem hj)
  have hf : w.frozen? ⟨g, j, none⟩ = false := row_free hrow
  have h1 : (storeVar t ⟨g, j, none⟩ (.slice A l c)).run Tryz.prog w = .ok () (w.setCell ⟨g, j, none⟩ (.slice A l c)) := by
    have := run_storeCells_cells (P := Tryz.prog) g j [Value.slice A l c] 0 w (fun q hq => by
      obtain rfl : q = 0 := by simpa using hq
      show (w.cell? ⟨g, j, none⟩).isSome = true
      rw [hc]; rfl) (fun q hq => by
      obtain rfl : q = 0 := by simpa using hq
      exact hf) (fun v hv => by simp at hv; subst hv; rfl)
    cases hq : Tryz.prog.info? t with
    | none => simp [hq] at hi
    | some i =>
      have hs : i.size = 1 := by simpa [hq] using hi
      simp [storeVar, sizeOf, typeInfo, hq, Value.cells, hs] at this ⊢
      rw [this]; rfl
  refine wpList_plain hg fun _ hK => ?_
  unfold Oper.wp execOp
  simp only [ho, hx, hy, Instr.storeAt, Instr.sureAddr, Sem.run_bind, Sem.run_pure, Result.andThen_ok, h1]
  exact hK _ _ (h _ (row_set hrow _ (by rw [List.setIfInBounds_toArray])) (Fr.setCell (S := fun b => b = g) (Fr.refl _ w) (p := ⟨g, j, none⟩) (.inl rfl) _))
/-- A byteStringReplacer that is built, in these boxes. -/
def RepP (pre : List (Nat × Obj)) (g : Nat) : Prop := ∃ (ka kb kt ca cb ct : Nat) (oa ob ot : Obj), (g, oBS (.slice (some ⟨ka, 0, none⟩) 2 ca) (.slice (some ⟨kb, 0, none⟩) 2 cb) (.slice (some ⟨kt, 0, none⟩) 2 ct)) ∈ pre ∧ (ka, oa) ∈ pre ∧ (kb, ob) ∈ pre ∧ (kt, ot) ∈ pre ∧
  RowIn oa [.int .u8 92, .int .u8 34] ∧ RowIn ob [.int .u8 92, .int .u8 92] ∧ RowIn ot (strs [⟨#[92]⟩, ⟨#[34]⟩])
def S0 (W wr : World) : Prop := ∃ T : Value, wr.heap[W.heap.size + 1]? = some (oBS nilS nilS T) ∧ wr.ownsRow 0 9 1 T 0 (strs []) ∧ Lo W.heap.size T ∧ T.ownBlock ≠ some (W.heap.size + 1) ∧ Below W.heap.size W wr
def S1 (W wr : World) : Prop := ∃ kb cb : Nat, ∃ T : Value, wr.heap[W.heap.size + 1]? = some (oBS nilS (.slice (some ⟨kb, 0, none⟩) 2 cb) T) ∧ wr.ownsRow 0 9 1 T 1 (strs [⟨#[92]⟩]) ∧ Lo W.heap.size T ∧ T.ownBlock ≠ some (W.heap.size + 1) ∧ Below W.heap.size W wr ∧ (∃ ob, wr.heap[kb]? = some ob ∧ RowIn ob [.int .u8 92, .int .u8 92]) ∧ W.heap.size ≤ kb ∧ kb ≠ W.heap.size + 1 ∧ (T.ownBlock ≠ some kb)
def S2 (W wr : World) : Prop := ∃ ka ca kb cb : Nat, ∃ T : Value, wr.heap[W.heap.size + 1]? = some (oBS (.slice (some ⟨ka, 0, none⟩) 2 ca) (.slice (some ⟨kb, 0, none⟩) 2 cb) T) ∧ wr.ownsRow 0 9 1 T 2 (strs [⟨#[92]⟩, ⟨#[34]⟩]) ∧ Lo W.heap.size T ∧ T.ownBlock ≠ some (W.heap.size + 1) ∧ Below W.heap.size W wr ∧ (∃ ob, wr.heap[kb]? = some ob ∧ RowIn ob [.int .u8 92, .int .u8 92]) ∧ W.heap.size ≤ kb ∧ kb ≠ W.heap.size + 1 ∧ (T.ownBlock ≠ some kb) ∧ (∃ oa, wr.heap[ka]? = some oa ∧ RowIn oa [.int .u8 92, .int .u8 34]) ∧ W.heap.size ≤ ka ∧ ka ≠ W.heap.size + 1 ∧ (T.ownBlock ≠ some ka)
set_option maxRecDepth 100000 in
set_option maxHeartbeats 3200000 in
theorem build_any {W : World} {b k c : Nat} {d st : Int} {r : Value} {ok : Obj} (hb : W.heap[b]? = some (oRep d st r (.slice (some ⟨k, 0, none⟩) 4 c))) (hk : W.heap[k]? = some ok) (hr : RowIn ok (strs RL)) :
    Calls Tryz.prog 257 #[.pointer (some ⟨b, 0, none⟩)] W fun e w' => (∃ g pre, e = .returned (.iface 353 (.pointer (some ⟨g, 0, none⟩))) ∧ RepP pre g ∧ (∀ x ∈ pre, w'.heap[x.1]? = some x.2) ∧ ∀ x ∈ pre, W.heap.size ≤ x.1) ∧ Below W.heap.size W w' := by
  have c4 : W.cell? ⟨b, 4, none⟩ = some (.slice (some ⟨k, 0, none⟩) 4 c) := (row_cell hb).trans rfl
  have s0 : W.cell? ⟨k, 0, none⟩ = some (.string ⟨#[34]⟩) := hr.cell hk rfl
  have s1 : W.cell? ⟨k, 1, none⟩ = some (.string ⟨#[92, 34]⟩) := hr.cell hk rfl
  have s2 : W.cell? ⟨k, 2, none⟩ = some (.string ⟨#[92]⟩) := hr.cell hk rfl
  have s3 : W.cell? ⟨k, 3, none⟩ = some (.string ⟨#[92, 92]⟩) := hr.cell hk rfl
  have hbl := lt_of_obj hb
  have hkl := lt_of_obj hk
  clear hr
  replace hb := Lib.hid hb
  replace hk := Lib.hid hk
  go_enter Tryz.func257, Tryz.ntmps257
  go_wp2
  go_loop [4, 5] (fun x4 x5 => (x5 = .int .i64 0 ∧ x4 = .bool true) ∨ (x5 = .int .i64 2 ∧ x4 = .bool false) ∨ (x5 = .int .i64 4 ∧ x4 = .bool false)) (fun _ x5 => 4 - (intOf x5).toNat)
  case atStart => exact .inl ⟨rfl, rfl⟩
  case round =>
    rcases hrel with ⟨rfl, rfl⟩ | ⟨rfl, rfl⟩ | ⟨rfl, rfl⟩
    · go_wp2
      exact ⟨.inr (.inl ⟨rfl, rfl⟩), by simp [intOf]⟩
    · go_wp2
      exact ⟨.inr (.inr ⟨rfl, rfl⟩), by simp [intOf]⟩
    · go_wp2_with (first
        | (refine wpList_make23 rfl _ _ rfl rfl rfl ?_; intro om ho1; have bel1 : Below W.heap.size W (W.alloc om) := (Below.refl _ _).alloc (Nat.le_refl _) _)
        | (refine wpList_buildTo rfl 352 _ rfl (some 95) rfl _ (built352 _ _ _) ?_)
        | (refine wpList_new rfl rfl rfl rfl z352 rfl (by rfl) (by rfl) (size352.trans (by rw [List.size_toArray, bs_len])) (by show (bsL _ _ _).toArray.size = _; rw [List.size_toArray, List.size_toArray, bs_len, bs_len]) (bs_one _ _ _ rfl rfl rfl) ?_))
      have st0 : S0 W ((W.alloc om).alloc (oBS nilS nilS (.slice (some ⟨W.heap.size, 0, none⟩) 0 2))) := by
        refine ⟨_, by have := box1 (W.alloc om) (oBS nilS nilS (.slice (some ⟨W.heap.size, 0, none⟩) 0 2)); rwa [World.size_alloc] at this, own_below ho1 (B := (W.alloc om).heap.size) ((Below.refl _ _).alloc (Nat.le_refl _) _) (own_lt ho1), fun b_ hb => ?_, fun h => ?_, bel1.alloc bel1.size _⟩
        · have h2 : some W.heap.size = some b_ := hb
          have := Option.some.inj h2
          omega
        · have h2 : some W.heap.size = some (W.heap.size + 1) := h
          have := Option.some.inj h2
          omega
      go_loopw [12] (fun x12 wr => (x12 = .int .i64 2 ∧ S0 W wr) ∨ (x12 = .int .i64 0 ∧ S1 W wr) ∨ (x12 = .int .i64 (-2) ∧ S2 W wr)) (fun x12 wr => (intOf x12 + 2).toNat)
      case atStart => exact .inl ⟨rfl, st0⟩
      case round =>
        clear st0
        rcases hrel with ⟨rfl, T, hg, ho, lo, hne, bel⟩ | ⟨rfl, kb, cb, T, hg, ho, lo, hne, bel, ⟨ob, hob, rob⟩, hkb1, hkb2, hkb3⟩ | ⟨rfl, ka, ca, kb, cb, T, hg, ho, lo, hne, bel, ⟨ob, hob, rob⟩, hkb1, hkb2, hkb3, ⟨oa, hoa, roa⟩, hka1, hka2, hka3⟩
        · have q0 : wr.cell? ⟨k, 2, none⟩ = some (.string ⟨#[92]⟩) := (Below.cell (p := ⟨k, 2, none⟩) bel hkl).trans s2
          have e8 : ((⟨#[92]⟩ : ByteArray)[0]'(by decide)).toNat = 92 := rfl
          have q1 : wr.cell? ⟨k, 3, none⟩ = some (.string ⟨#[92, 92]⟩) := (Below.cell (p := ⟨k, 3, none⟩) bel hkl).trans s3
          obtain ⟨A, c2, rfl, hc1, hc2⟩ := own_slice ho
          have q2 : wr.cell? ⟨W.heap.size + 1, 92, none⟩ = some (.slice none 0 0) := (row_cell hg).trans (by rw [List.getElem?_toArray, bs_get]; rfl)
          have q3 : wr.cell? ⟨W.heap.size + 1, 256, none⟩ = some (.slice A 0 c2) := (row_cell hg).trans (by rw [List.getElem?_toArray, bs_get]; rfl)
          have hgl := lt_of_obj hg
          have hnil := nil_eql
          have hcv := b2s_at wr 92 (s := ⟨#[92]⟩) rfl
          replace hg := Lib.hid hg
          replace hne := Lib.hid hne
          go_wp2_with (first
            | (at_builtin; refine wpList_app1 rfl (.tmp 119) (.tmp 123) 23 rfl Tryz.underlying23 Tryz.info9 rfl (by decide) (by decide) [.string ⟨#[92]⟩] rfl (by intro z hz; simp at hz; subst hz; rfl) rfl (own_below ho (B := wr.heap.size) ((Below.refl _ _).alloc (Nat.le_refl _) _) (own_lt ho)) (by rw [World.size_alloc]; rfl) (by omega) ?_; intro T2 w5 ho5 hn5 hf5; have hg5 := Lib.hid (hf5.obj ((heap_alloc_keep wr _ hgl).trans hg.out) hne.out); have bel5 : Below W.heap.size W w5 := (bel.alloc bel.size _).trans (hf5.belowB lo (Nat.le_trans bel.size (by simp))); have lo5 := lo.next hn5 (Nat.le_trans bel.size (by simp)); have hne5 : Hid (T2.ownBlock ≠ some (W.heap.size + 1)) := Lib.hid (fun e => hn5.elim (fun h => hne.out (h ▸ e)) (fun ⟨q, h, hq⟩ => by rw [h] at e; cases e; simp at hq; omega)); obtain ⟨A2, c3, rfl, hd1, hd2⟩ := own_slice ho5)
            | (refine wpList_putS rfl 23 (.tmp 125) (.tmp 124) rfl (g := W.heap.size + 1) (j := 256) (A := A2) (l := 1) (c := c3) rfl rfl hg5.out (by rw [bs_len]; decide) (by kernel_rfl) (bs_setT _ _ _ _) ?_; intro w6 hg6 hf6; have bel6 : Below W.heap.size W w6 := bel5.trans (hf6.belowS (fun b hb => by omega) bel5.size); have ho6 := own_fr ho5 hf6 (fun b hb e => hne5.out (hb.trans (congrArg some e))); have hg6 := Lib.hid hg6)
            | (refine wpList_s2b rfl (.tmp 127) rfl (s := ⟨#[92, 92]⟩) rfl (n := 2) (by decide) ?_; intro w7 k7 c7 o7 hk7 hr7 hk7l bel7; have hg7 := Lib.hid (Below.box hg6.out bel7 (lt_of_obj hg6.out)))
            | (refine wpList_putS rfl 150 (.tmp 130) (.tmp 128) rfl (g := W.heap.size + 1) (j := 92) (A := some ⟨k7, 0, none⟩) (l := 2) (c := c7) rfl rfl hg7.out (by rw [bs_len]; decide) (by kernel_rfl) (bs_set92 _ _ _ _) ?_; intro w8 hg8 hf8))
          have own8 := own_fr (own_below ho6 bel7 (own_lt ho6)) hf8 (fun b hb e => hne5.out (hb.trans (congrArg some e)))
          have h6l : W.heap.size + 1 < w6.heap.size := lt_of_obj hg6.out
          have hk7n : k7 ≠ W.heap.size + 1 := by omega
          have hk8 := hf8.obj hk7 hk7n
          have bel7' : Below W.heap.size W w7 := bel6.trans (bel7.mono bel6.size)
          have bel8 : Below W.heap.size W w8 := bel7'.trans (hf8.belowS (fun b hb => by omega) bel7'.size)
          have b6 := bel6.size
          have ht7 : (Value.slice A2 1 c3).ownBlock ≠ some k7 := fun e => by have := own_lt ho6 k7 e; omega
          exact ⟨.inr (.inl ⟨rfl, k7, c7, _, hg8, own8, lo5, hne5.out, bel8, ⟨o7, hk8, hr7⟩, by omega, hk7n, ht7⟩), by simp [intOf]⟩
        · have q0 : wr.cell? ⟨k, 0, none⟩ = some (.string ⟨#[34]⟩) := (Below.cell (p := ⟨k, 0, none⟩) bel hkl).trans s0
          have e8 : ((⟨#[34]⟩ : ByteArray)[0]'(by decide)).toNat = 34 := rfl
          have q1 : wr.cell? ⟨k, 1, none⟩ = some (.string ⟨#[92, 34]⟩) := (Below.cell (p := ⟨k, 1, none⟩) bel hkl).trans s1
          obtain ⟨A, c2, rfl, hc1, hc2⟩ := own_slice ho
          have q2 : wr.cell? ⟨W.heap.size + 1, 34, none⟩ = some (.slice none 0 0) := (row_cell hg).trans (by rw [List.getElem?_toArray, bs_get]; rfl)
          have q3 : wr.cell? ⟨W.heap.size + 1, 256, none⟩ = some (.slice A 1 c2) := (row_cell hg).trans (by rw [List.getElem?_toArray, bs_get]; rfl)
          have hgl := lt_of_obj hg
          have hnil := nil_eql
          have hcv := b2s_at wr 34 (s := ⟨#[34]⟩) rfl
          replace hg := Lib.hid hg
          replace hne := Lib.hid hne
          replace hkb3 := Lib.hid hkb3
          have hbl2 := lt_of_obj hob
          replace hob := Lib.hid hob
          go_wp2_with (first
            | (at_builtin; refine wpList_app1 rfl (.tmp 119) (.tmp 123) 23 rfl Tryz.underlying23 Tryz.info9 rfl (by decide) (by decide) [.string ⟨#[34]⟩] rfl (by intro z hz; simp at hz; subst hz; rfl) rfl (own_below ho (B := wr.heap.size) ((Below.refl _ _).alloc (Nat.le_refl _) _) (own_lt ho)) (by rw [World.size_alloc]; rfl) (by omega) ?_; intro T2 w5 ho5 hn5 hf5; have hg5 := Lib.hid (hf5.obj ((heap_alloc_keep wr _ hgl).trans hg.out) hne.out); have bel5 : Below W.heap.size W w5 := (bel.alloc bel.size _).trans (hf5.belowB lo (Nat.le_trans bel.size (by simp))); have lo5 := lo.next hn5 (Nat.le_trans bel.size (by simp)); have hne5 : Hid (T2.ownBlock ≠ some (W.heap.size + 1)) := Lib.hid (fun e => hn5.elim (fun h => hne.out (h ▸ e)) (fun ⟨q, h, hq⟩ => by rw [h] at e; cases e; simp at hq; omega)); have hob5 := Lib.hid (hf5.obj ((heap_alloc_keep wr _ hbl2).trans hob.out) hkb3.out); have hkb5 : Hid (T2.ownBlock ≠ some kb) := Lib.hid (fun e => hn5.elim (fun h => hkb3.out (h ▸ e)) (fun ⟨q, h, hq⟩ => by rw [h] at e; cases e; simp at hq; omega)); obtain ⟨A2, c3, rfl, hd1, hd2⟩ := own_slice ho5)
            | (refine wpList_putS rfl 23 (.tmp 125) (.tmp 124) rfl (g := W.heap.size + 1) (j := 256) (A := A2) (l := 2) (c := c3) rfl rfl hg5.out (by rw [bs_len]; decide) (by kernel_rfl) (bs_setT _ _ _ _) ?_; intro w6 hg6 hf6; have bel6 : Below W.heap.size W w6 := bel5.trans (hf6.belowS (fun b hb => by omega) bel5.size); have ho6 := own_fr ho5 hf6 (fun b hb e => hne5.out (hb.trans (congrArg some e))); have hg6 := Lib.hid hg6)
            | (refine wpList_s2b rfl (.tmp 127) rfl (s := ⟨#[92, 34]⟩) rfl (n := 2) (by decide) ?_; intro w7 k7 c7 o7 hk7 hr7 hk7l bel7; have hg7 := Lib.hid (Below.box hg6.out bel7 (lt_of_obj hg6.out)))
            | (refine wpList_putS rfl 150 (.tmp 130) (.tmp 128) rfl (g := W.heap.size + 1) (j := 34) (A := some ⟨k7, 0, none⟩) (l := 2) (c := c7) rfl rfl hg7.out (by rw [bs_len]; decide) (by kernel_rfl) (bs_set34 _ _ _ _) ?_; intro w8 hg8 hf8))
          have own8 := own_fr (own_below ho6 bel7 (own_lt ho6)) hf8 (fun b hb e => hne5.out (hb.trans (congrArg some e)))
          have h6l : W.heap.size + 1 < w6.heap.size := lt_of_obj hg6.out
          have hk7n : k7 ≠ W.heap.size + 1 := by omega
          have hk8 := hf8.obj hk7 hk7n
          have bel7' : Below W.heap.size W w7 := bel6.trans (bel7.mono bel6.size)
          have bel8 : Below W.heap.size W w8 := bel7'.trans (hf8.belowS (fun b hb => by omega) bel7'.size)
          have b6 := bel6.size
          have ht7 : (Value.slice A2 2 c3).ownBlock ≠ some k7 := fun e => by have := own_lt ho6 k7 e; omega
          have hob8 := hf8.obj (Below.box (hf6.obj hob5.out hkb2) bel7 (lt_of_obj (hf6.obj hob5.out hkb2))) hkb2
          exact ⟨.inr (.inr ⟨rfl, k7, c7, kb, cb, _, hg8, own8, lo5, hne5.out, bel8, ⟨ob, hob8, rob⟩, hkb1, hkb2, hkb5.out, ⟨o7, hk8, hr7⟩, by omega, hk7n, ht7⟩), by simp [intOf]⟩
        · obtain ⟨A, c2, rfl, -, -⟩ := own_slice ho
          obtain ⟨kt, ot, rfl, -, hkt, rkt⟩ := own_obj ho (by decide) (by decide)
          have hktl := lo kt rfl
          replace hkt := Lib.hid hkt
          replace hg := Lib.hid hg
          replace hoa := Lib.hid hoa
          replace hob := Lib.hid hob
          go_wp2
          go_ret
          refine ⟨⟨W.heap.size + 1, [(W.heap.size + 1, oBS (.slice (some ⟨ka, 0, none⟩) 2 ca) (.slice (some ⟨kb, 0, none⟩) 2 cb) (.slice (some ⟨kt, 0, none⟩) 2 c2)), (ka, oa), (kb, ob), (kt, ot)], rfl, ⟨ka, kb, kt, ca, cb, c2, oa, ob, ot, by simp, by simp, by simp, by simp, roa, rob, rkt⟩, fun x hx => ?_, fun x hx => ?_⟩, bel⟩
          · simp only [List.mem_cons, List.not_mem_nil, or_false] at hx
            rcases hx with rfl | rfl | rfl | rfl
            · exact hg.out
            · exact hoa.out
            · exact hob.out
            · exact hkt.out
          · simp only [List.mem_cons, List.not_mem_nil, or_false] at hx
            rcases hx with rfl | rfl | rfl | rfl
            · exact Nat.le_succ _
            · exact hka1
            · exact hkb1
            · exact hktl
end Go.Proofs.YtnljjlaececnkaaGreatDoor
/-
  sync.Once over a Replacer that was made just now: it is built. Condition: nobody holds its lock.
-/
namespace Go.Proofs.YtnljjlaececnkaaGreatDoor
open Go.RowKit
set_option linter.unusedVariables false
set_option linter.unusedSimpArgs false
/-- What building leaves. -/
def Built (W W' : World) (b : Nat) (d st : Int) : Prop := ∃ g pre, RepP pre g ∧ (∀ x ∈ pre, W'.heap[x.1]? = some x.2) ∧ (∀ x ∈ pre, W.heap.size ≤ x.1) ∧ W'.heap[b]? = some (oRep d st (.iface 353 (.pointer (some ⟨g, 0, none⟩))) nilS)
theorem oRep_set (W : World) (b : Nat) (d st : Int) (r v : Value) (h : W.heap[b]? = some (oRep d st r v)) : (∀ x, (W.setCell ⟨b, 3, none⟩ x).heap[b]? = some (oRep d st x v)) ∧ (∀ x, (W.setCell ⟨b, 4, none⟩ x).heap[b]? = some (oRep d st r x)) ∧ (∀ n, (W.setCell ⟨b, 0, none⟩ (.int .u32 n)).heap[b]? = some (oRep n st r v)) ∧ (∀ n, (W.setCell ⟨b, 1, none⟩ (.int .i32 n)).heap[b]? = some (oRep d n r v)) :=
  ⟨fun x => row_set h x rfl, fun x => row_set h x rfl, fun n => row_set h _ rfl, fun n => row_set h _ rfl⟩
theorem oRep_cells {W : World} {b : Nat} {d st : Int} {r v : Value} (h : W.heap[b]? = some (oRep d st r v)) : W.cell? ⟨b, 0, none⟩ = some (.int .u32 d) ∧ W.cell? ⟨b, 1, none⟩ = some (.int .i32 st) ∧ W.cell? ⟨b, 3, none⟩ = some r ∧ W.cell? ⟨b, 4, none⟩ = some v ∧ ∀ j, W.frozen? ⟨b, j, none⟩ = false :=
  ⟨(row_cell h).trans rfl, (row_cell h).trans rfl, (row_cell h).trans rfl, (row_cell h).trans rfl, fun j => row_free h⟩
set_option maxRecDepth 100000 in
set_option maxHeartbeats 1600000 in
theorem buildOnce_any {W : World} {b k c : Nat} {d st : Int} {r : Value} {ok : Obj} (hb : W.heap[b]? = some (oRep d st r (.slice (some ⟨k, 0, none⟩) 4 c))) (hk : W.heap[k]? = some ok) (hr : RowIn ok (strs RL)) :
    Calls Tryz.prog 209 #[.pointer (some ⟨b, 0, none⟩)] W fun e w' => e = .returned (.tuple #[]) ∧ Built W w' b d st ∧ Fr (fun x => x = b) W w' := by
  have hB := build_any hb hk hr
  have hbl := lt_of_obj hb
  replace hb := Lib.hid hb
  clear hk hr
  go_enter Tryz.func209, Tryz.ntmps209
  go_wp2_with (go_at_call 257; refine hB.mono ?_; clear hB; rintro e w1 ⟨⟨g, pre, rfl, hp, hall, hlow⟩, bel⟩; have hb1 := Below.box hb.out bel hbl; obtain ⟨q0, q1, q3, q4, qf⟩ := oRep_cells hb1; have q3f := qf 3; have q4f := qf 4; have hb1 := Lib.hid hb1; have hall := Lib.hid hall; have hlow := Lib.hid hlow; clear qf q0 q1)
  go_end0
  have h2 := (oRep_set _ _ _ _ _ _ hb1.out).1 (.iface 353 (.pointer (some ⟨g, 0, none⟩)))
  have h3 := (oRep_set _ _ _ _ _ _ h2).2.1 nilS
  have f2 := Fr.setCell (S := fun x => x = b) (Fr.refl _ w1) (p := ⟨b, 3, none⟩) (.inl rfl) (.iface 353 (.pointer (some ⟨g, 0, none⟩)))
  have f3 := Fr.setCell (S := fun x => x = b) f2 (p := ⟨b, 4, none⟩) (.inl rfl) nilS
  refine ⟨rfl, ⟨g, pre, hp, fun x hx => f3.obj (hall.out x hx) (fun e => by have := hlow.out x hx; omega), hlow.out, h3⟩, (Fr.of_below bel).trans f3 (fun b' h => .inl h)⟩
theorem load255 {w : World} {b : Nat} {d : Int} (h0 : w.cell? ⟨b, 0, none⟩ = some (.int .u32 d)) : Calls Tryz.prog 255 #[.pointer (some ⟨b, 0, none⟩)] w fun e w' => e = .returned (.bool (d != 0)) ∧ w' = w := by
  have hl := run_call_load (P := Tryz.prog) Tryz.func295 (by kernel_rfl) (by kernel_rfl) (by kernel_rfl) .u32 (by kernel_rfl) h0
  replace h0 := Lib.hid h0
  go_enter Tryz.func255, Tryz.ntmps255
  go_wp2
  go_ret
  exact ⟨rfl, rfl⟩
set_option maxRecDepth 100000 in
set_option maxHeartbeats 1600000 in
theorem doSlow_any {W : World} {b k c : Nat} {r : Value} {ok : Obj} (hb : W.heap[b]? = some (oRep 0 0 r (.slice (some ⟨k, 0, none⟩) 4 c))) (hk : W.heap[k]? = some ok) (hkb : k ≠ b) (hr : RowIn ok (strs RL)) :
    Calls Tryz.prog 256 #[.pointer (some ⟨b, 0, none⟩), .func (.func 209) #[.pointer (some ⟨b, 0, none⟩)] #[]] W fun e w' => e = .returned (.tuple #[]) ∧ Built W w' b 1 0 ∧ Fr (fun x => x = b) W w' := by
  obtain ⟨q0, q1, q3, q4, qf⟩ := oRep_cells hb
  have f1 := Fr.setCell (S := fun x => x = b) (Fr.refl _ W) (p := ⟨b, 1, none⟩) (.inl rfl) (.int .i32 1)
  have hb1 := (oRep_set _ _ _ _ _ _ hb).2.2.2 1
  have hk1 := f1.obj hk hkb
  have hB := buildOnce_any hb1 hk1 hr
  have hl := load255 (oRep_cells hb1).1
  have hlk := Once.lock_free ⟨b, 1, none⟩ W q1 (qf 1)
  have hnot : ∀ (x : Bool) (w : World), (Op.unary .not (.bool x)).run Tryz.prog w = .ok (.bool (!x)) w := fun _ _ => rfl
  replace hb := Lib.hid hb
  clear q0 q1 q3 q4 qf hk hr hb1 hk1
  go_enter_defers Tryz.func256, Tryz.ntmps256
  go_wp2_with (go_at_call 296; refine hlk.mono ?_; clear hlk; rintro e w' ⟨rfl, rfl⟩)
  go_wp2_with (first | (go_at_call 255; refine hl.mono ?_; clear hl; rintro e w' ⟨rfl, rfl⟩) | (go_at_call 209; refine hB.mono ?_; clear hB; rintro e w2 ⟨rfl, ⟨g, pre, hp, hall, hlow, hb2⟩, hf2⟩; have hb2 := Lib.hid hb2; have hall := Lib.hid hall; have hlow := Lib.hid hlow))
  obtain ⟨p0, p1, p3, p4, pf⟩ := oRep_cells hb2.out
  refine leaves_cons (f := 298) (args := #[.pointer (some ⟨b, 0, none⟩), .bool true]) (by simp) (by simp [go_sem]) ?_
  refine (Once.store_deferred ⟨b, 0, none⟩ (.int .u32 0) .returning w2 p0 (pf 0)).mono ?_
  rintro e u' w'' ⟨rfl, rfl, rfl⟩
  have hb3 : (w2.drew.setCell ⟨b, 0, none⟩ (.int .u32 1)).heap[b]? = some (oRep 1 1 (.iface 353 (.pointer (some ⟨g, 0, none⟩))) nilS) := (oRep_set w2.drew _ _ _ _ _ hb2.out).2.2.1 1
  have f3 : Fr (fun x => x = b) w2 (w2.drew.setCell ⟨b, 0, none⟩ (.int .u32 1)) := Fr.setCell (S := fun x => x = b) (show Fr (fun x => x = b) w2 w2.drew from ⟨rfl, rfl, rfl, Nat.le_refl _, fun _ _ _ => rfl⟩) (p := ⟨b, 0, none⟩) (.inl rfl) _
  generalize w2.drew.setCell ⟨b, 0, none⟩ (.int .u32 1) = w3 at *
  obtain ⟨r0, r1, r3, r4, rf⟩ := oRep_cells hb3
  refine leaves_cons (f := 297) (args := #[.pointer (some ⟨b, 1, none⟩)]) (by simp [settle]) (by simp [go_sem]) ?_
  refine (Once.unlock_deferred ⟨b, 1, none⟩ _ w3 r1 (rf 1)).mono ?_
  rintro e u' w'' ⟨rfl, rfl, rfl⟩
  have hb4 := (oRep_set w3 _ _ _ _ _ hb3).2.2.2 0
  have f4 := Fr.setCell (S := fun x => x = b) f3 (p := ⟨b, 1, none⟩) (.inl rfl) (.int .i32 0)
  have hres : Built W (w3.setCell ⟨b, 1, none⟩ (.int .i32 0)) b 1 0 := ⟨g, pre, hp, fun x hx => f4.obj (hall.out x hx) (fun e => by have := hlow.out x hx; have := f1.size; have := lt_of_obj hb.out; omega), fun x hx => Nat.le_trans f1.size (hlow.out x hx), hb4⟩
  have hfr : Fr (fun x => x = b) W (w3.setCell ⟨b, 1, none⟩ (.int .i32 0)) := (f1.trans hf2 (fun b' h => .inl h)).trans f4 (fun b' h => .inl h)
  simp [Leaves, settle, results, Tryz.results256]
  exact ⟨hres, hfr⟩
set_option maxRecDepth 100000 in
set_option maxHeartbeats 1600000 in
theorem do_any {W : World} {b k c : Nat} {r : Value} {ok : Obj} (hb : W.heap[b]? = some (oRep 0 0 r (.slice (some ⟨k, 0, none⟩) 4 c))) (hk : W.heap[k]? = some ok) (hkb : k ≠ b) (hr : RowIn ok (strs RL)) :
    Calls Tryz.prog 208 #[.pointer (some ⟨b, 0, none⟩), .func (.func 209) #[.pointer (some ⟨b, 0, none⟩)] #[]] W fun e w' => e = .returned (.tuple #[]) ∧ Built W w' b 1 0 ∧ Fr (fun x => x = b) W w' := by
  have hS := doSlow_any hb hk hkb hr
  have hl := load255 (oRep_cells hb).1
  have hnot : ∀ (x : Bool) (w : World), (Op.unary .not (.bool x)).run Tryz.prog w = .ok (.bool (!x)) w := fun _ _ => rfl
  clear hb hk hr hkb
  go_enter Tryz.func208, Tryz.ntmps208
  go_wp2_with (first | (go_at_call 255; refine hl.mono ?_; clear hl; rintro e w' ⟨rfl, rfl⟩) | (go_at_call 256; refine hS.mono ?_; clear hS; rintro e w2 ⟨rfl, hbt, hf⟩; have hbt := Lib.hid hbt))
  go_end0
  exact ⟨rfl, hbt.out, hf⟩
end Go.Proofs.YtnljjlaececnkaaGreatDoor
/-
  How many bytes a byteStringReplacer lays; is anything to be done? No condition.
-/
namespace Go.Proofs.YtnljjlaececnkaaGreatDoor
open Go.RowKit
set_option linter.unusedVariables false
set_option linter.unusedSimpArgs false
def escB (c : UInt8) : List UInt8 := if c = 34 then [92, 34] else if c = 92 then [92, 92] else [c]
/-- A text with its quotation marks and strokes marked. -/
def escL (l : List UInt8) : List UInt8 := l.flatMap escB
theorem esc_len : ∀ l : List UInt8, (escL l).length = l.length + l.count 92 + l.count 34
  | [] => rfl
  | c :: l => by
    have ih := esc_len l
    unfold escL at *
    rw [List.flatMap_cons, List.length_append, ih, List.count_cons, List.count_cons]
    unfold escB
    by_cases h1 : c = 34
    · subst h1; simp; omega
    · by_cases h2 : c = 92
      · subst h2; simp; omega
      · have e1 : (c == 34) = false := by simpa using h1
        have e2 : (c == 92) = false := by simpa using h2
        rw [if_neg h1, if_neg h2, e1, e2]; simp; omega
theorem esc_same : ∀ l : List UInt8, l.count 92 = 0 → l.count 34 = 0 → escL l = l
  | [], _, _ => rfl
  | c :: l, h1, h2 => by
    rw [List.count_cons] at h1 h2
    have n1 : c ≠ 92 := fun e => by subst e; simp at h1
    have n2 : c ≠ 34 := fun e => by subst e; simp at h2
    have ih := esc_same l (by omega) (by omega)
    unfold escL at *
    rw [List.flatMap_cons, ih]
    unfold escB
    rw [if_neg n2, if_neg n1]; rfl
theorem count_take {l : List UInt8} {i : Nat} {x y : UInt8} (h : l[i]? = some x) : (l.take (i + 1)).count y = (l.take i).count y + if x = y then 1 else 0 := by
  rw [take_snoc h, List.count_append, List.count_singleton]
  by_cases e : x = y
  · rw [if_pos e]; simp [e]
  · rw [if_neg e]; simp [e]
theorem str_nums (l : List UInt8) : strOfNums (l.map fun b => (b.toNat : Int)) = ⟨l.toArray⟩ := by
  unfold strOfNums
  congr 1
  rw [List.map_map]
  congr 1
  refine (List.map_congr_left fun b hb => ?_).trans (List.map_id _)
  simp
theorem info5z : (Tryz.prog.info? 5).map (fun i => (i.zero, i.size, i.bytes)) = some (some (.int .u8 0), 1, 1) := by kernel_rfl
theorem cut150 {k n j : Nat} (hj : j < n) (W : World) : (Instr.slice 150 (.slice (some ⟨k, 0, none⟩) n n) (some (.int .i64 (j : Int))) none none).run Tryz.prog W = .ok (.slice (some ⟨k, j, none⟩) (n - j) (n - j)) W := by
  obtain ⟨i, hi, hz0, hz1, hz2⟩ := info_parts info5z
  have hel : Tryz.prog.elem 150 = 5 := by kernel_rfl
  rw [run_slice_l W 150 (some ⟨k, 0, none⟩) n n (by rw [hel]; exact Tryz.underlying150) .i64 (j : Int) (by omega) (by omega)]
  simp [sizeOf, typeInfo, hel, hi, hz1, sliced, Result.andThen]
  rw [if_neg (by omega)]
  simp [Addr.add]
  intro h; rw [h]
theorem esc_take {l : List UInt8} {i : Nat} {c : UInt8} (h : l[i]? = some c) : escL (l.take (i + 1)) = escL (l.take i) ++ escB c := by
  rw [take_snoc h]; unfold escL; rw [List.flatMap_append]; simp
theorem esc_room {l : List UInt8} (i : Nat) : (escL (l.take i)).length ≤ (escL l).length := by
  have : escL l = escL (l.take i) ++ escL (l.drop i) := by unfold escL; rw [← List.flatMap_append, List.take_append_drop]
  rw [this, List.length_append]; omega
def byV (l : List UInt8) : List Value := l.map fun b => Value.int .u8 b.toNat
theorem byV_app (l m : List UInt8) : byV (l ++ m) = byV l ++ byV m := List.map_append
theorem byV_len (l : List UInt8) : (byV l).length = l.length := List.length_map _
theorem wpList_make150 {ops : Array Oper} {rest : List Oper} {o : Oper} {a : Act} {w : World} {Q : Exit → Act → World → Prop} (hg : o.guard = none) (x y : Operand) (ho : o.op = .makeSlice 150 x y) {n : Nat} (hx : a.eval x = .int .i64 n) (hy : a.eval y = .int .i64 n) (hn : n ≤ 140737488355328)
    (h : ∀ (w' : World) (k : Nat) (xs : List Value), xs.length = n → w'.heap[k]? = some (.cells xs.toArray 5 (0, 0)) → w.heap.size ≤ k → Below w.heap.size w w' → wpList Tryz.prog ops Q rest (a.put o.dst (.slice (some ⟨k, 0, none⟩) n n)) w') : wpList Tryz.prog ops Q (o :: rest) a w := by
  have h5 := info5z
  cases hi : Tryz.prog.info? 5 with
  | none => rw [hi] at h5; cases h5
  | some i =>
  rw [hi] at h5
  simp only [Option.map_some, Option.some.injEq, Prod.mk.injEq] at h5
  obtain ⟨hz, hs, hb⟩ := h5
  have hr := run_make (P := Tryz.prog) w 150 5 i (.int .u8 0) Tryz.underlying150 hi hz .i64 .i64 n n (by omega) (Int.le_refl _) (by rw [hb]; omega) (by omega)
  rw [Int.toNat_natCast] at hr
  have hrun : (execOp a.eval o).run Tryz.prog w = .ok (.value (.slice (some ⟨w.heap.size, 0, none⟩) n n)) (w.alloc (.cells (madeCells (Value.int .u8 0).cells (n * i.size)) 5)) := by
    unfold execOp
    simp only [ho, hx, hy, Sem.run_bind, hr, Sem.run_pure, Result.andThen_ok]
  exact wpList_run hg hrun (h _ w.heap.size (madeCells (Value.int .u8 0).cells (n * i.size)).toList (by rw [Array.length_toList, size_madeCells, hs, Nat.mul_one]) (by rw [Array.toArray_toList]; exact box1 w _) (Nat.le_refl _) ((Below.refl _ _).alloc (Nat.le_refl _) _))
section
variable {w : World} {g ka kb kt ca cb ct : Nat} {ot : Obj}
set_option maxRecDepth 100000 in
set_option maxHeartbeats 3200000 in
/-- The first half: from the start to the question whether anything is to be done. -/
theorem rep_head {s : ByteArray} (hs : s.size < 4294967281) {c92 c34 : Nat} (h92 : s.data.toList.count 92 = c92) (h34 : s.data.toList.count 34 = c34)
    (hg : w.heap[g]? = some (oBS (.slice (some ⟨ka, 0, none⟩) 2 ca) (.slice (some ⟨kb, 0, none⟩) 2 cb) (.slice (some ⟨kt, 0, none⟩) 2 ct))) (ht : w.heap[kt]? = some ot) (rt : RowIn ot (strs [⟨#[92]⟩, ⟨#[34]⟩]))
    (hka : ∃ oa, w.heap[ka]? = some oa ∧ RowIn oa [.int .u8 92, .int .u8 34]) (hkb : ∃ ob, w.heap[kb]? = some ob ∧ RowIn ob [.int .u8 92, .int .u8 92])
    (hcn : c92 ≤ s.size ∧ c34 ≤ s.size) {N : Nat} (hN : s.size + c92 + c34 = N) : Calls Tryz.prog 361 #[.pointer (some ⟨g, 0, none⟩), .string s] w fun e w' => e = .returned (.string ⟨(escL s.data.toList).toArray⟩) ∧ Below w.heap.size w w' := by
  have hlenE : (escL s.data.toList).length = N := by rw [esc_len, len_data, h92, h34]; exact hN
  have hsame : c92 + c34 = 0 → (⟨(escL s.data.toList).toArray⟩ : ByteArray) = s := fun h => by rw [esc_same _ (by omega) (by omega)]
  replace hsame := Lib.hid hsame
  replace hlenE := Lib.hid hlenE
  have hgl := lt_of_obj hg
  have htl := lt_of_obj ht
  have B := Bz.start w
  have hn92 := fun W => Tryz.strings_Count_one s 92 W
  have hn34 := fun W => Tryz.strings_Count_one s 34 W
  have e92 : Lib.countByte s.data.toList 92 = c92 := h92
  have e34 : Lib.countByte s.data.toList 34 = c34 := h34
  rw [e92] at hn92
  rw [e34] at hn34
  have cT : w.cell? ⟨g, 256, none⟩ = some (.slice (some ⟨kt, 0, none⟩) 2 ct) := (row_cell hg).trans (by rw [List.getElem?_toArray, bs_get]; rfl)
  replace hg := Lib.hid hg
  replace ht := Lib.hid ht
  replace h92 := Lib.hid h92
  replace h34 := Lib.hid h34
  clear e92 e34
  obtain ⟨c1, c2⟩ := hcn
  have hNle : N ≤ 3 * s.size := by omega
  replace hN := Lib.hid hN
  go_enter Tryz.func361, Tryz.ntmps361
  go_upto_if 26 with fail
  go_cut [5, 6] from 8 to 80 (fun x5 x6 W => x5 = .int .i64 (N : Int) ∧ x6 = .bool (decide (0 < c92 + c34)) ∧ Bz w [] W)
  case first =>
    by_cases h16 : 16 ≤ s.size
    · have hd : decide ((16 : Int) ≤ s.size) = true := decide_eq_true (by omega)
      simp only [hd]
      go_wp2_with fail
      go_loopw [5, 6, 32] (fun x5 x6 x32 wr => Bz w [] wr ∧ ((x32 = .int .i64 0 ∧ x5 = .int .i64 s.size ∧ x6 = .bool false) ∨ (x32 = .int .i64 1 ∧ x5 = .int .i64 ((s.size + c92 : Nat) : Int) ∧ x6 = .bool (decide (0 < c92))) ∨ (x32 = .int .i64 2 ∧ x5 = .int .i64 ((s.size + c92 + c34 : Nat) : Int) ∧ x6 = .bool (decide (0 < c92 + c34))))) (fun _ _ x32 wr => (2 - intOf x32).toNat)
      case atStart => exact ⟨B, .inl ⟨rfl, rfl, rfl⟩⟩
      case round =>
        obtain ⟨bx, ⟨rfl, rfl, rfl⟩ | ⟨rfl, rfl, rfl⟩ | ⟨rfl, rfl, rfl⟩⟩ := hrel
        · have q0 : wr.cell? ⟨kt, 0, none⟩ = some (.string ⟨#[92]⟩) := (Below.cell (p := ⟨kt, 0, none⟩) bx.bel htl).trans (rt.cell ht.out rfl)
          have e8 : ((⟨#[92]⟩ : ByteArray)[0]'(by decide)).toNat = 92 := rfl
          by_cases hz : c92 = 0
          · have hz1 : ((c92 : Int) != 0) = false := by simp; omega
            replace hz := Lib.hid hz
            go_wp2_with (go_at_call 203; with_reducible refine (hn92 _).mono ?_; rintro e w' ⟨rfl, rfl⟩)
            go_roundw
            case rel => exact ⟨bx, .inr (.inl ⟨rfl, by rw [hz.out]; congr 1, by rw [hz.out]; rfl⟩)⟩
            case measure => simp [intOf]
          · have hz1 : ((c92 : Int) != 0) = true := by simp; omega
            have w1 : IntKind.i64.wrap (c92 : Int) = c92 := IntWalk.i64_in _ (by omega)
            have w2 : IntKind.i64.wrap ((s.size : Int) + c92) = ((s.size + c92 : Nat) : Int) := (IntWalk.i64_in _ (by omega)).trans (by omega)
            replace hz := Lib.hid hz
            go_wp2_with (go_at_call 203; with_reducible refine (hn92 _).mono ?_; rintro e w' ⟨rfl, rfl⟩)
            refine wp_region_C (C := Bz w []) (by kernel_rfl) (by kernel_rfl) (bx.drew) ?_
            refine wpQuiet_hide ?_
            intro lq hlq
            refine wpQuiet_step_h hlq ?_
            clear hlq lq
            intro K lq hlq hK
            refine wanted_go (by rfl) ?_
            refine ⟨?_, fun W hW => ?_, ?_⟩
            rotate_left
            · skip
              go_simp
              with_reducible rfl
            refine hK _ ?_
            clear hK K
            (try simp only [Act.put, List.setIfInBounds_toArray, List.set_cons_zero, List.set_cons_succ])
            refine wpQuiet_step_h hlq ?_
            clear hlq lq
            intro K lq hlq hK
            refine wanted_go (by rfl) ?_
            refine ⟨?_, fun W hW => ?_, ?_⟩
            rotate_left
            · skip
              go_simp
              with_reducible rfl
            refine hK _ ?_
            clear hK K
            (try simp only [Act.put, List.setIfInBounds_toArray, List.set_cons_zero, List.set_cons_succ])
            refine wpQuiet_step_h hlq ?_
            clear hlq lq
            intro K lq hlq hK
            refine wanted_go (by rfl) ?_
            refine ⟨?_, fun W hW => ?_, ?_⟩
            rotate_left
            · skip
              go_simp
              with_reducible rfl
            refine hK _ ?_
            clear hK K
            (try simp only [Act.put, List.setIfInBounds_toArray, List.set_cons_zero, List.set_cons_succ])
            refine wpQuiet_step_h hlq ?_
            clear hlq lq
            intro K lq hlq hK
            refine wanted_go (by rfl) ?_
            refine ⟨?_, fun W hW => ?_, ?_⟩
            rotate_left
            · skip
              go_simp
              with_reducible rfl
            refine hK _ ?_
            clear hK K
            (try simp only [Act.put, List.setIfInBounds_toArray, List.set_cons_zero, List.set_cons_succ])
            refine wpQuiet_step_h hlq ?_
            clear hlq lq
            intro K lq hlq hK
            refine wanted_go (by rfl) ?_
            refine ⟨?_, fun W hW => ?_, ?_⟩
            rotate_left
            · skip
              go_simp
              with_reducible rfl
            refine hK _ ?_
            clear hK K
            (try simp only [Act.put, List.setIfInBounds_toArray, List.set_cons_zero, List.set_cons_succ])
            refine wpQuiet_step_h hlq ?_
            clear hlq lq
            intro K lq hlq hK
            refine wanted_go (by rfl) ?_
            refine ⟨?_, fun W hW => ?_, ?_⟩
            rotate_left
            · skip
              go_simp
              with_reducible rfl
            refine hK _ ?_
            clear hK K
            (try simp only [Act.put, List.setIfInBounds_toArray, List.set_cons_zero, List.set_cons_succ])
            refine wpQuiet_step_h hlq ?_
            clear hlq lq
            intro K lq hlq hK
            refine wanted_go (by rfl) ?_
            refine ⟨?_, fun W hW => ?_, ?_⟩
            rotate_left
            · skip
              go_simp
              with_reducible rfl
            refine hK _ ?_
            clear hK K
            (try simp only [Act.put, List.setIfInBounds_toArray, List.set_cons_zero, List.set_cons_succ])
            refine wpQuiet_step_h hlq ?_
            clear hlq lq
            intro K lq hlq hK
            refine wanted_go (by rfl) ?_
            refine ⟨?_, fun W hW => ?_, ?_⟩
            rotate_left
            · skip
              go_simp
              with_reducible rfl
            refine hK _ ?_
            clear hK K
            (try simp only [Act.put, List.setIfInBounds_toArray, List.set_cons_zero, List.set_cons_succ])
            refine wpQuiet_step_h hlq ?_
            clear hlq lq
            intro K lq hlq hK
            refine wanted_go (by rfl) ?_
            refine ⟨.slice (some ⟨kb, 0, none⟩) 2 cb, fun W hW => ?_, ?_⟩
            · skip
              exact quiet_load 150 _ rfl rfl (loadVar_slice Tryz.underlying150 ((row_cell (Below.box hg.out hW.bel hgl)).trans (by rw [List.getElem?_toArray, bs_get]; rfl)))
            refine hK _ ?_
            clear hK K
            (try simp only [Act.put, List.setIfInBounds_toArray, List.set_cons_zero, List.set_cons_succ])
            refine wpQuiet_step_h hlq ?_
            clear hlq lq
            intro K lq hlq hK
            refine wanted_go (by rfl) ?_
            refine ⟨?_, fun W hW => ?_, ?_⟩
            rotate_left
            · skip
              go_simp
              with_reducible rfl
            refine hK _ ?_
            clear hK K
            (try simp only [Act.put, List.setIfInBounds_toArray, List.set_cons_zero, List.set_cons_succ])
            refine wpQuiet_step_h hlq ?_
            clear hlq lq
            intro K lq hlq hK
            refine wanted_go (by rfl) ?_
            refine ⟨?_, fun W hW => ?_, ?_⟩
            rotate_left
            · skip
              go_simp
              with_reducible rfl
            refine hK _ ?_
            clear hK K
            (try simp only [Act.put, List.setIfInBounds_toArray, List.set_cons_zero, List.set_cons_succ])
            refine wpQuiet_step_h hlq ?_
            clear hlq lq
            intro K lq hlq hK
            refine wanted_go (by rfl) ?_
            refine ⟨?_, fun W hW => ?_, ?_⟩
            rotate_left
            · skip
              go_simp
              with_reducible rfl
            refine hK _ ?_
            clear hK K
            (try simp only [Act.put, List.setIfInBounds_toArray, List.set_cons_zero, List.set_cons_succ])
            refine wpQuiet_step_h hlq ?_
            clear hlq lq
            intro K lq hlq hK
            refine wanted_go (by rfl) ?_
            refine ⟨?_, fun W hW => ?_, ?_⟩
            rotate_left
            · skip
              go_simp
              with_reducible rfl
            refine hK _ ?_
            clear hK K
            (try simp only [Act.put, List.setIfInBounds_toArray, List.set_cons_zero, List.set_cons_succ])
            refine wpQuiet_step_h hlq ?_
            clear hlq lq
            intro K lq hlq hK
            refine wanted_go (by rfl) ?_
            refine ⟨?_, fun W hW => ?_, ?_⟩
            rotate_left
            · skip
              go_simp
              with_reducible rfl
            refine hK _ ?_
            clear hK K
            (try simp only [Act.put, List.setIfInBounds_toArray, List.set_cons_zero, List.set_cons_succ])
            refine wpQuiet_nil_h hlq ?_
            clear hlq lq bx
            intro V1 hV2
            go_wp2_with fail
            go_roundw
            case rel => exact ⟨hV2, .inr (.inl ⟨rfl, by congr 1; rw [show IntKind.i64.wrap 1 = 1 from rfl, Int.mul_one, w1, w2], by rw [decide_eq_true (Nat.pos_of_ne_zero hz.out)]⟩)⟩
            case measure => simp [intOf]
        · have q0 : wr.cell? ⟨kt, 1, none⟩ = some (.string ⟨#[34]⟩) := (Below.cell (p := ⟨kt, 1, none⟩) bx.bel htl).trans (rt.cell ht.out rfl)
          have e8 : ((⟨#[34]⟩ : ByteArray)[0]'(by decide)).toNat = 34 := rfl
          by_cases hz : c34 = 0
          · have hz1 : ((c34 : Int) != 0) = false := by simp; omega
            replace hz := Lib.hid hz
            go_wp2_with (go_at_call 203; with_reducible refine (hn34 _).mono ?_; rintro e w' ⟨rfl, rfl⟩)
            go_roundw
            case rel => exact ⟨bx, .inr (.inr ⟨rfl, by rw [hz.out]; congr 1, by rw [hz.out]; rfl⟩)⟩
            case measure => simp [intOf]
          · have hz1 : ((c34 : Int) != 0) = true := by simp; omega
            have w1 : IntKind.i64.wrap (c34 : Int) = c34 := IntWalk.i64_in _ (by omega)
            have w2 : IntKind.i64.wrap ((s.size : Int) + c92 + c34) = ((s.size + c92 + c34 : Nat) : Int) := (IntWalk.i64_in _ (by omega)).trans (by omega)
            replace hz := Lib.hid hz
            go_wp2_with (go_at_call 203; with_reducible refine (hn34 _).mono ?_; rintro e w' ⟨rfl, rfl⟩)
            refine wp_region_C (C := Bz w []) (by kernel_rfl) (by kernel_rfl) (bx.drew) ?_
            refine wpQuiet_hide ?_
            intro lq hlq
            refine wpQuiet_step_h hlq ?_
            clear hlq lq
            intro K lq hlq hK
            refine wanted_go (by rfl) ?_
            refine ⟨?_, fun W hW => ?_, ?_⟩
            rotate_left
            · skip
              go_simp
              with_reducible rfl
            refine hK _ ?_
            clear hK K
            (try simp only [Act.put, List.setIfInBounds_toArray, List.set_cons_zero, List.set_cons_succ])
            refine wpQuiet_step_h hlq ?_
            clear hlq lq
            intro K lq hlq hK
            refine wanted_go (by rfl) ?_
            refine ⟨?_, fun W hW => ?_, ?_⟩
            rotate_left
            · skip
              go_simp
              with_reducible rfl
            refine hK _ ?_
            clear hK K
            (try simp only [Act.put, List.setIfInBounds_toArray, List.set_cons_zero, List.set_cons_succ])
            refine wpQuiet_step_h hlq ?_
            clear hlq lq
            intro K lq hlq hK
            refine wanted_go (by rfl) ?_
            refine ⟨?_, fun W hW => ?_, ?_⟩
            rotate_left
            · skip
              go_simp
              with_reducible rfl
            refine hK _ ?_
            clear hK K
            (try simp only [Act.put, List.setIfInBounds_toArray, List.set_cons_zero, List.set_cons_succ])
            refine wpQuiet_step_h hlq ?_
            clear hlq lq
            intro K lq hlq hK
            refine wanted_go (by rfl) ?_
            refine ⟨?_, fun W hW => ?_, ?_⟩
            rotate_left
            · skip
              go_simp
              with_reducible rfl
            refine hK _ ?_
            clear hK K
            (try simp only [Act.put, List.setIfInBounds_toArray, List.set_cons_zero, List.set_cons_succ])
            refine wpQuiet_step_h hlq ?_
            clear hlq lq
            intro K lq hlq hK
            refine wanted_go (by rfl) ?_
            refine ⟨?_, fun W hW => ?_, ?_⟩
            rotate_left
            · skip
              go_simp
              with_reducible rfl
            refine hK _ ?_
            clear hK K
            (try simp only [Act.put, List.setIfInBounds_toArray, List.set_cons_zero, List.set_cons_succ])
            refine wpQuiet_step_h hlq ?_
            clear hlq lq
            intro K lq hlq hK
            refine wanted_go (by rfl) ?_
            refine ⟨?_, fun W hW => ?_, ?_⟩
            rotate_left
            · skip
              go_simp
              with_reducible rfl
            refine hK _ ?_
            clear hK K
            (try simp only [Act.put, List.setIfInBounds_toArray, List.set_cons_zero, List.set_cons_succ])
            refine wpQuiet_step_h hlq ?_
            clear hlq lq
            intro K lq hlq hK
            refine wanted_go (by rfl) ?_
            refine ⟨?_, fun W hW => ?_, ?_⟩
            rotate_left
            · skip
              go_simp
              with_reducible rfl
            refine hK _ ?_
            clear hK K
            (try simp only [Act.put, List.setIfInBounds_toArray, List.set_cons_zero, List.set_cons_succ])
            refine wpQuiet_step_h hlq ?_
            clear hlq lq
            intro K lq hlq hK
            refine wanted_go (by rfl) ?_
            refine ⟨?_, fun W hW => ?_, ?_⟩
            rotate_left
            · skip
              go_simp
              with_reducible rfl
            refine hK _ ?_
            clear hK K
            (try simp only [Act.put, List.setIfInBounds_toArray, List.set_cons_zero, List.set_cons_succ])
            refine wpQuiet_step_h hlq ?_
            clear hlq lq
            intro K lq hlq hK
            refine wanted_go (by rfl) ?_
            refine ⟨.slice (some ⟨ka, 0, none⟩) 2 ca, fun W hW => ?_, ?_⟩
            · skip
              exact quiet_load 150 _ rfl rfl (loadVar_slice Tryz.underlying150 ((row_cell (Below.box hg.out hW.bel hgl)).trans (by rw [List.getElem?_toArray, bs_get]; rfl)))
            refine hK _ ?_
            clear hK K
            (try simp only [Act.put, List.setIfInBounds_toArray, List.set_cons_zero, List.set_cons_succ])
            refine wpQuiet_step_h hlq ?_
            clear hlq lq
            intro K lq hlq hK
            refine wanted_go (by rfl) ?_
            refine ⟨?_, fun W hW => ?_, ?_⟩
            rotate_left
            · skip
              go_simp
              with_reducible rfl
            refine hK _ ?_
            clear hK K
            (try simp only [Act.put, List.setIfInBounds_toArray, List.set_cons_zero, List.set_cons_succ])
            refine wpQuiet_step_h hlq ?_
            clear hlq lq
            intro K lq hlq hK
            refine wanted_go (by rfl) ?_
            refine ⟨?_, fun W hW => ?_, ?_⟩
            rotate_left
            · skip
              go_simp
              with_reducible rfl
            refine hK _ ?_
            clear hK K
            (try simp only [Act.put, List.setIfInBounds_toArray, List.set_cons_zero, List.set_cons_succ])
            refine wpQuiet_step_h hlq ?_
            clear hlq lq
            intro K lq hlq hK
            refine wanted_go (by rfl) ?_
            refine ⟨?_, fun W hW => ?_, ?_⟩
            rotate_left
            · skip
              go_simp
              with_reducible rfl
            refine hK _ ?_
            clear hK K
            (try simp only [Act.put, List.setIfInBounds_toArray, List.set_cons_zero, List.set_cons_succ])
            refine wpQuiet_step_h hlq ?_
            clear hlq lq
            intro K lq hlq hK
            refine wanted_go (by rfl) ?_
            refine ⟨?_, fun W hW => ?_, ?_⟩
            rotate_left
            · skip
              go_simp
              with_reducible rfl
            refine hK _ ?_
            clear hK K
            (try simp only [Act.put, List.setIfInBounds_toArray, List.set_cons_zero, List.set_cons_succ])
            refine wpQuiet_step_h hlq ?_
            clear hlq lq
            intro K lq hlq hK
            refine wanted_go (by rfl) ?_
            refine ⟨?_, fun W hW => ?_, ?_⟩
            rotate_left
            · skip
              go_simp
              with_reducible rfl
            refine hK _ ?_
            clear hK K
            (try simp only [Act.put, List.setIfInBounds_toArray, List.set_cons_zero, List.set_cons_succ])
            refine wpQuiet_nil_h hlq ?_
            clear hlq lq bx
            intro V1 hV2
            go_wp2_with fail
            go_roundw
            case rel => exact ⟨hV2, .inr (.inr ⟨rfl, by congr 1; rw [show IntKind.i64.wrap 1 = 1 from rfl, Int.mul_one, w1, w2], by rw [decide_eq_true (by have := Nat.pos_of_ne_zero hz.out; omega)]⟩)⟩
            case measure => simp [intOf]
        · go_wp2
          go_meet
          exact ⟨by rw [← hN.out], rfl, bx⟩
    · have hd : decide ((16 : Int) ≤ s.size) = false := decide_eq_false (by omega)
      have s1 := fun W => some_neq W ⟨kb, 0, none⟩ 2 cb
      have s2 := fun W => some_neq W ⟨ka, 0, none⟩ 2 ca
      have s3 := nil_neq
      go_wp2_with fail
      go_loop [5, 6, 10] (fun x5 x6 x10 => ∃ i a b : Nat, i ≤ s.size ∧ a ≤ i ∧ b ≤ i ∧ x10 = .int .i64 i ∧ x5 = .int .i64 ((s.size + a + b : Nat) : Int) ∧ x6 = .bool (decide (0 < a + b)) ∧ Hid ((s.data.toList.take i).count 92 = a ∧ (s.data.toList.take i).count 34 = b)) (fun _ _ x10 => s.size - (intOf x10).toNat)
      case atStart => exact ⟨0, 0, 0, by omega, by omega, by omega, rfl, rfl, rfl, Lib.hid ⟨rfl, rfl⟩⟩
      case round =>
        obtain ⟨i, a, b, hi, ha, hb, rfl, rfl, rfl, hab⟩ := hrel
        by_cases hlt : i < s.size
        · have hget := get_byte s i hlt
          have k1 := count_take (y := 92) hget
          have k2 := count_take (y := 34) hget
          rw [hab.out.1] at k1
          rw [hab.out.2] at k2
          by_cases h1 : s[i] = 92
          · have hv : s[i].toNat = 92 := by rw [h1]; rfl
            have hc : w.cell? ⟨g, 92, none⟩ = some (.slice (some ⟨kb, 0, none⟩) 2 cb) := (row_cell hg.out).trans (by rw [List.getElem?_toArray, bs_get]; rfl)
            rw [h1] at k1 k2
            replace k1 := Lib.hid k1
            replace k2 := Lib.hid k2
            clear h1 hget
            go_wp2
            refine ⟨⟨i + 1, a + 1, b, by omega, by omega, by omega, by congr 1, by first | rfl | (congr 1; omega), by rw [decide_eq_true (by omega)], Lib.hid ⟨by rw [k1.out]; rfl, by rw [k2.out]; rfl⟩⟩, by simp [intOf]; omega⟩
          · by_cases h2 : s[i] = 34
            · have hv : s[i].toNat = 34 := by rw [h2]; rfl
              have hc : w.cell? ⟨g, 34, none⟩ = some (.slice (some ⟨ka, 0, none⟩) 2 ca) := (row_cell hg.out).trans (by rw [List.getElem?_toArray, bs_get]; rfl)
              rw [h2] at k1 k2
              replace k1 := Lib.hid k1
              replace k2 := Lib.hid k2
              clear h1 h2 hget
              go_wp2
              refine ⟨⟨i + 1, a, b + 1, by omega, by omega, by omega, by congr 1, by first | rfl | (congr 1; omega), by rw [decide_eq_true (by omega)], Lib.hid ⟨by rw [k1.out]; rfl, by rw [k2.out]; rfl⟩⟩, by simp [intOf]; omega⟩
            · have hn1 : s[i].toNat ≠ 92 := fun e => h1 (UInt8.toNat_inj.1 e)
              have hn2 : s[i].toNat ≠ 34 := fun e => h2 (UInt8.toNat_inj.1 e)
              have hlt8 := s[i].toNat_lt
              have hc : w.cell? ⟨g, s[i].toNat, none⟩ = some (.slice none 0 0) := (row_cell hg.out).trans (by rw [List.getElem?_toArray, bs_get, if_neg (by omega), if_neg hn1, if_neg hn2, if_pos (by omega)]; rfl)
              rw [if_neg h1] at k1
              rw [if_neg h2] at k2
              replace k1 := Lib.hid k1
              replace k2 := Lib.hid k2
              clear h1 h2 hget
              replace hn1 := Lib.hid hn1
              replace hn2 := Lib.hid hn2
              go_wp2
              refine ⟨⟨i + 1, a, b, by omega, by omega, by omega, by congr 1, rfl, rfl, Lib.hid ⟨by rw [k1.out]; rfl, by rw [k2.out]; rfl⟩⟩, by simp [intOf]; omega⟩
        · obtain rfl : i = s.size := by omega
          have hall := hab.out
          rw [List.take_of_length_le (by rw [len_data]; exact Nat.le_refl _), h92.out, h34.out] at hall
          obtain ⟨rfl, rfl⟩ := hall
          go_wp2
          go_meet
          exact ⟨by rw [← hN.out]; rfl, rfl, B⟩
  case rest =>
    obtain ⟨rfl, rfl, bc⟩ := hcut
    by_cases hz : c92 + c34 = 0
    · have hd : decide (0 < c92 + c34) = false := decide_eq_false (by omega)
      have hq := Lib.hid (hsame.out hz)
      replace hz := Lib.hid hz
      simp only [hd]
      clear hd
      go_wp2_with fail
      go_ret
      exact ⟨by rw [hq.out]; rfl, bc.bel⟩
    · have hd : decide (0 < c92 + c34) = true := decide_eq_true (by omega)
      replace hz := Lib.hid hz
      simp only [hd]
      clear hd
      go_wp2_with (refine wpList_make150 rfl (.tmp 84) (.tmp 84) rfl (n := N) rfl rfl (by omega) ?_; intro w1 k1 xs hxs hk1 hlow1 bel1; have bx1 := bc.go bel1; have hk1 := Lib.hid hk1)
      go_loopw [13, 14] (fun x13 x14 wr => ∃ (i : Nat) (pre : List UInt8) (rest : List Value), i ≤ s.size ∧ x14 = .int .i64 i ∧ x13 = .int .i64 (pre.length : Int) ∧ Bz w [] wr ∧ Hid (escL (s.data.toList.take i) = pre) ∧ Hid (wr.heap[k1]? = some (.cells (byV pre ++ rest).toArray 5 (0, 0))) ∧ pre.length + rest.length = N) (fun _ x14 wr => s.size - (intOf x14).toNat)
      case atStart => exact ⟨0, [], xs, by omega, rfl, rfl, bx1, rfl, hk1, by simpa using hxs⟩
      case round =>
        obtain ⟨i, pre, rest, hi, rfl, rfl, bx, hpre, hk, hlen⟩ := hrel
        by_cases hlt : i < s.size
        · have hget := get_byte s i hlt
          have hnx := esc_take hget
          have hroom := esc_room (l := s.data.toList) (i + 1)
          rw [hnx, hpre.out, hlenE.out, List.length_append] at hroom
          rw [hpre.out] at hnx
          by_cases hsp : s[i] = 92 ∨ s[i] = 34
          · rcases hsp with hsp | hsp
            · have hv : s[i].toNat = 92 := by rw [hsp]; rfl
              have he : escB s[i] = [92, 92] := by rw [hsp]; rfl
              rw [he] at hnx hroom
              have hc : wr.cell? ⟨g, 92, none⟩ = some (.slice (some ⟨kb, 0, none⟩) 2 cb) := (row_cell (Below.box hg.out bx.bel hgl)).trans (by rw [List.getElem?_toArray, bs_get]; rfl)
              obtain ⟨oq, hq1, hq2⟩ := hkb
              have hroom2 : pre.length + 2 ≤ N := by simpa using hroom
              have hjN : pre.length < N := by omega
              have s1 := fun W => some_neq W ⟨kb, 0, none⟩ 2 cb
              have hsl := cut150 (k := k1) hjN
              replace hnx := Lib.hid hnx
              replace hsp := Lib.hid hsp
              clear hget he hroom
              go_wp2_with fail
              have hq3 := Lib.hid (Below.box hq1 bx.bel (lt_of_obj hq1))
              have hmin : Hid (2 = Nat.min 2 (N - pre.length)) := Lib.hid (Nat.min_eq_left (by omega)).symm
              have hsum : IntKind.i64.wrap ((pre.length : Int) + 2) = (pre.length : Int) + 2 := IntWalk.i64_in _ (by omega)
              refine wp_region_held_drew (S := (Bz w [])) (by kernel_rfl) (bx.drew) (fun hHeld => ?_)
              refine wpAnyH_take (i := 0) (oi := { dst := (some 102), op := (Op.move (Operand.tmp 13)), type := 3, pos := "replace.go:541", after := #[], guard := none }) (v := ?_) rfl (by kernel_rfl) (by kernel_rfl) (by kernel_rfl) (fun _ _ _ h => h) (Or.inl ⟨by rfl, ?_⟩) (by assumption) ?_
              rotate_left
              · intro w hSw
                (try dsimp only at hSw)
                go_simp
                with_reducible rfl
              (try simp only [Act.put, List.setIfInBounds_toArray, List.set_cons_zero, List.set_cons_succ])
              refine wpAnyH_take (i := 1) (oi := { dst := (some 103), op := (Op.move (Operand.tmp 12)), type := 150, pos := "replace.go:541", after := #[], guard := none }) (v := ?_) rfl (by kernel_rfl) (by kernel_rfl) (by kernel_rfl) (fun _ _ _ h => h) (Or.inl ⟨by rfl, ?_⟩) (by assumption) ?_
              rotate_left
              · intro w hSw
                (try dsimp only at hSw)
                go_simp
                with_reducible rfl
              (try simp only [Act.put, List.setIfInBounds_toArray, List.set_cons_zero, List.set_cons_succ])
              refine wpAnyH_take (i := 2) (oi := { dst := (some 104), op := (Op.move (Operand.tmp 13)), type := 3, pos := "replace.go:541", after := #[], guard := none }) (v := ?_) rfl (by kernel_rfl) (by kernel_rfl) (by kernel_rfl) (fun _ _ _ h => h) (Or.inl ⟨by rfl, ?_⟩) (by assumption) ?_
              rotate_left
              · intro w hSw
                (try dsimp only at hSw)
                go_simp
                with_reducible rfl
              (try simp only [Act.put, List.setIfInBounds_toArray, List.set_cons_zero, List.set_cons_succ])
              refine wpAnyH_take (i := 3) (oi := { dst := (some 105), op := (Op.slice 150 (Operand.tmp 103) (some (Operand.tmp 104)) none none), type := 150, pos := "replace.go:541", after := #[{ on := 1, ground := Ground.data }, { on := 2, ground := Ground.data }], guard := none }) (v := ?_) rfl (by kernel_rfl) (by kernel_rfl) (by kernel_rfl) (fun _ _ _ h => h) (Or.inl ⟨by rfl, ?_⟩) (by assumption) ?_
              rotate_left
              · intro w hSw
                (try dsimp only at hSw)
                go_simp
                with_reducible rfl
              (try simp only [Act.put, List.setIfInBounds_toArray, List.set_cons_zero, List.set_cons_succ])
              refine wpAnyH_take (i := 4) (oi := { dst := (some 106), op := (Op.move (Operand.tmp 0)), type := 353, pos := "replace.go:541", after := #[], guard := none }) (v := ?_) rfl (by kernel_rfl) (by kernel_rfl) (by kernel_rfl) (fun _ _ _ h => h) (Or.inl ⟨by rfl, ?_⟩) (by assumption) ?_
              rotate_left
              · intro w hSw
                (try dsimp only at hSw)
                go_simp
                with_reducible rfl
              (try simp only [Act.put, List.setIfInBounds_toArray, List.set_cons_zero, List.set_cons_succ])
              refine wpAnyH_take (i := 5) (oi := { dst := (some 107), op := (Op.move (Operand.tmp 15)), type := 5, pos := "replace.go:541", after := #[], guard := none }) (v := ?_) rfl (by kernel_rfl) (by kernel_rfl) (by kernel_rfl) (fun _ _ _ h => h) (Or.inl ⟨by rfl, ?_⟩) (by assumption) ?_
              rotate_left
              · intro w hSw
                (try dsimp only at hSw)
                go_simp
                with_reducible rfl
              (try simp only [Act.put, List.setIfInBounds_toArray, List.set_cons_zero, List.set_cons_succ])
              refine wpAnyH_take (i := 6) (oi := { dst := (some 108), op := (Op.nilCheck (Operand.tmp 106)), type := 0, pos := "replace.go:541", after := #[{ on := 4, ground := Ground.data }], guard := none }) (v := ?_) rfl (by kernel_rfl) (by kernel_rfl) (by kernel_rfl) (fun _ _ _ h => h) (Or.inl ⟨by rfl, ?_⟩) (by assumption) ?_
              rotate_left
              · intro w hSw
                (try dsimp only at hSw)
                go_simp
                with_reducible rfl
              (try simp only [Act.put, List.setIfInBounds_toArray, List.set_cons_zero, List.set_cons_succ])
              refine wpAnyH_take (i := 7) (oi := { dst := (some 109), op := (Op.fieldAddr 352 (Operand.tmp 108) 0), type := 0, pos := "replace.go:541", after := #[{ on := 6, ground := Ground.data }], guard := none }) (v := ?_) rfl (by kernel_rfl) (by kernel_rfl) (by kernel_rfl) (fun _ _ _ h => h) (Or.inl ⟨by rfl, ?_⟩) (by assumption) ?_
              rotate_left
              · intro w hSw
                (try dsimp only at hSw)
                go_simp
                with_reducible rfl
              (try simp only [Act.put, List.setIfInBounds_toArray, List.set_cons_zero, List.set_cons_succ])
              refine wpAnyH_take (i := 8) (oi := { dst := (some 110), op := (Op.indexAddr 350 (Operand.tmp 109) (Operand.tmp 107)), type := 0, pos := "replace.go:541", after := #[{ on := 7, ground := Ground.data }, { on := 5, ground := Ground.data }], guard := none }) (v := ?_) rfl (by kernel_rfl) (by kernel_rfl) (by kernel_rfl) (fun _ _ _ h => h) (Or.inl ⟨by rfl, ?_⟩) (by assumption) ?_
              rotate_left
              · intro w hSw
                (try dsimp only at hSw)
                go_simp
                with_reducible rfl
              (try simp only [Act.put, List.setIfInBounds_toArray, List.set_cons_zero, List.set_cons_succ])
              refine wpAnyH_take (i := 9) (oi := { dst := (some 111), op := (Op.load 150 (Operand.tmp 110)), type := 150, pos := "replace.go:541", after := #[{ on := 8, ground := Ground.data }], guard := none }) (v := .slice (some ⟨kb, 0, none⟩) 2 cb) rfl (by kernel_rfl) (by kernel_rfl) (by kernel_rfl) (fun _ _ _ h => h) (Or.inl ⟨by rfl, fun W hW => ?_⟩) (by assumption) ?_
              · exact exec_load 150 _ rfl rfl (loadVar_slice Tryz.underlying150 ((row_cell (Below.box hg.out hW.bel hgl)).trans (by rw [List.getElem?_toArray, bs_get]; rfl)))
              (try simp only [Act.put, List.setIfInBounds_toArray, List.set_cons_zero, List.set_cons_succ])
              refine wpAnyH_ready (rs := [10]) (by kernel_rfl) (by simp) ?_
              refine AllReadyH.cons (o := { dst := (some 112), op := (Op.call { callee := (Callee.builtin Builtin.copy), args := #[(Operand.tmp 105), (Operand.tmp 111)], argTypes := #[150, 150] }), type := 3, pos := "replace.go:541", after := #[{ on := 3, ground := Ground.data }, { on := 9, ground := Ground.data }], guard := none }) rfl (fun K hK => ?_) AllReadyH.nil
              refine step_copy_splice rfl (.tmp 105) (.tmp 111) 150 150 rfl 5 Tryz.underlying150 (by kernel_rfl) (some ⟨k1, pre.length, none⟩) (some ⟨kb, 0, none⟩) (N - pre.length) (N - pre.length) 2 cb rfl rfl k1 pre.length (byV pre ++ rest) 5 hk.out [.int .u8 92, .int .u8 92] hmin.out (fun _ => ⟨rfl, _, rfl, fun j v hj => by rw [Addr.add_lit, Nat.zero_add]; exact hq2.cell hq3.out hj⟩) (by rw [List.length_append, byV_len]; simp; omega) (by intro v hv; simp at hv; rcases hv with rfl | rfl <;> rfl) w.heap.size w bx.drew.bel (Nat.le_trans bc.bel.size hlow1) ?_
              intro w3 hk3 bel3
              refine hK.out _ _ ?_ (fun hHeld => ?_)
              · exact ⟨bel3, trivial, List.Pairwise.nil, fun x h => by cases h⟩
              clear hK K
              (try simp only [Act.put, List.setIfInBounds_toArray, List.set_cons_zero, List.set_cons_succ])
              refine wpAnyH_take (i := 11) (oi := { dst := (some 113), op := (Op.binOp BinOp.add 3 (Operand.tmp 102) (Operand.tmp 112) 3), type := 3, pos := "replace.go:541", after := #[{ on := 0, ground := Ground.data }, { on := 10, ground := Ground.data }], guard := none }) (v := ?_) rfl (by kernel_rfl) (by kernel_rfl) (by kernel_rfl) (fun _ _ _ h => h) (Or.inl ⟨by rfl, ?_⟩) (by assumption) ?_
              rotate_left
              · intro w hSw
                (try dsimp only at hSw)
                go_simp
                with_reducible rfl
              (try simp only [Act.put, List.setIfInBounds_toArray, List.set_cons_zero, List.set_cons_succ])
              refine wpAnyH_take (i := 12) (oi := { dst := (some 13), op := (Op.assign (Operand.tmp 113)), type := 3, pos := "replace.go:541", after := #[{ on := 11, ground := Ground.data }, { on := 10, ground := Ground.chain }, { on := 0, ground := Ground.phase }, { on := 1, ground := Ground.phase }, { on := 2, ground := Ground.phase }, { on := 3, ground := Ground.phase }, { on := 4, ground := Ground.phase }, { on := 5, ground := Ground.phase }, { on := 6, ground := Ground.phase }, { on := 7, ground := Ground.phase }, { on := 8, ground := Ground.phase }, { on := 9, ground := Ground.phase }, { on := 10, ground := Ground.phase }, { on := 11, ground := Ground.phase }], guard := none }) (v := ?_) rfl (by kernel_rfl) (by kernel_rfl) (by kernel_rfl) (fun _ _ _ h => h) (Or.inl ⟨by rfl, ?_⟩) (by assumption) ?_
              rotate_left
              · intro w hSw
                (try dsimp only at hSw)
                go_simp
                with_reducible rfl
              (try simp only [Act.put, List.setIfInBounds_toArray, List.set_cons_zero, List.set_cons_succ])
              refine wpAnyH_done (by kernel_rfl) ?_ _
              go_wp2_with fail
              have hsp2 : splice (byV pre ++ rest) pre.length [.int .u8 92, .int .u8 92] = byV (pre ++ [92, 92]) ++ rest.drop 2 := by
                unfold splice
                rw [List.take_left' (byV_len pre), List.drop_append, byV_len, byV_app]
                rw [List.drop_eq_nil_of_le (by rw [byV_len]; simp)]
                simp [byV]
              have hk4 : Hid (w3.heap[k1]? = some (.cells (byV (pre ++ [92, 92]) ++ rest.drop 2).toArray 5 (0, 0))) := Lib.hid (by rw [← hsp2]; exact hk3.out)
              refine ⟨⟨i + 1, pre ++ [92, 92], rest.drop 2, by omega, by congr 1, by congr 1; simp only [List.length_append, List.length_cons, List.length_nil]; first | exact hsum | (rw [hsum]; simp) | simp, hHeld, hnx, hk4, by simp; omega⟩, by simp [intOf]; omega⟩
            · have hv : s[i].toNat = 34 := by rw [hsp]; rfl
              have he : escB s[i] = [92, 34] := by rw [hsp]; rfl
              rw [he] at hnx hroom
              have hc : wr.cell? ⟨g, 34, none⟩ = some (.slice (some ⟨ka, 0, none⟩) 2 ca) := (row_cell (Below.box hg.out bx.bel hgl)).trans (by rw [List.getElem?_toArray, bs_get]; rfl)
              obtain ⟨oq, hq1, hq2⟩ := hka
              have hroom2 : pre.length + 2 ≤ N := by simpa using hroom
              have hjN : pre.length < N := by omega
              have s1 := fun W => some_neq W ⟨ka, 0, none⟩ 2 ca
              have hsl := cut150 (k := k1) hjN
              replace hnx := Lib.hid hnx
              replace hsp := Lib.hid hsp
              clear hget he hroom
              go_wp2_with fail
              have hq3 := Lib.hid (Below.box hq1 bx.bel (lt_of_obj hq1))
              have hmin : Hid (2 = Nat.min 2 (N - pre.length)) := Lib.hid (Nat.min_eq_left (by omega)).symm
              have hsum : IntKind.i64.wrap ((pre.length : Int) + 2) = (pre.length : Int) + 2 := IntWalk.i64_in _ (by omega)
              refine wp_region_held_drew (S := (Bz w [])) (by kernel_rfl) (bx.drew) (fun hHeld => ?_)
              refine wpAnyH_take (i := 0) (oi := { dst := (some 102), op := (Op.move (Operand.tmp 13)), type := 3, pos := "replace.go:541", after := #[], guard := none }) (v := ?_) rfl (by kernel_rfl) (by kernel_rfl) (by kernel_rfl) (fun _ _ _ h => h) (Or.inl ⟨by rfl, ?_⟩) (by assumption) ?_
              rotate_left
              · intro w hSw
                (try dsimp only at hSw)
                go_simp
                with_reducible rfl
              (try simp only [Act.put, List.setIfInBounds_toArray, List.set_cons_zero, List.set_cons_succ])
              refine wpAnyH_take (i := 1) (oi := { dst := (some 103), op := (Op.move (Operand.tmp 12)), type := 150, pos := "replace.go:541", after := #[], guard := none }) (v := ?_) rfl (by kernel_rfl) (by kernel_rfl) (by kernel_rfl) (fun _ _ _ h => h) (Or.inl ⟨by rfl, ?_⟩) (by assumption) ?_
              rotate_left
              · intro w hSw
                (try dsimp only at hSw)
                go_simp
                with_reducible rfl
              (try simp only [Act.put, List.setIfInBounds_toArray, List.set_cons_zero, List.set_cons_succ])
              refine wpAnyH_take (i := 2) (oi := { dst := (some 104), op := (Op.move (Operand.tmp 13)), type := 3, pos := "replace.go:541", after := #[], guard := none }) (v := ?_) rfl (by kernel_rfl) (by kernel_rfl) (by kernel_rfl) (fun _ _ _ h => h) (Or.inl ⟨by rfl, ?_⟩) (by assumption) ?_
              rotate_left
              · intro w hSw
                (try dsimp only at hSw)
                go_simp
                with_reducible rfl
              (try simp only [Act.put, List.setIfInBounds_toArray, List.set_cons_zero, List.set_cons_succ])
              refine wpAnyH_take (i := 3) (oi := { dst := (some 105), op := (Op.slice 150 (Operand.tmp 103) (some (Operand.tmp 104)) none none), type := 150, pos := "replace.go:541", after := #[{ on := 1, ground := Ground.data }, { on := 2, ground := Ground.data }], guard := none }) (v := ?_) rfl (by kernel_rfl) (by kernel_rfl) (by kernel_rfl) (fun _ _ _ h => h) (Or.inl ⟨by rfl, ?_⟩) (by assumption) ?_
              rotate_left
              · intro w hSw
                (try dsimp only at hSw)
                go_simp
                with_reducible rfl
              (try simp only [Act.put, List.setIfInBounds_toArray, List.set_cons_zero, List.set_cons_succ])
              refine wpAnyH_take (i := 4) (oi := { dst := (some 106), op := (Op.move (Operand.tmp 0)), type := 353, pos := "replace.go:541", after := #[], guard := none }) (v := ?_) rfl (by kernel_rfl) (by kernel_rfl) (by kernel_rfl) (fun _ _ _ h => h) (Or.inl ⟨by rfl, ?_⟩) (by assumption) ?_
              rotate_left
              · intro w hSw
                (try dsimp only at hSw)
                go_simp
                with_reducible rfl
              (try simp only [Act.put, List.setIfInBounds_toArray, List.set_cons_zero, List.set_cons_succ])
              refine wpAnyH_take (i := 5) (oi := { dst := (some 107), op := (Op.move (Operand.tmp 15)), type := 5, pos := "replace.go:541", after := #[], guard := none }) (v := ?_) rfl (by kernel_rfl) (by kernel_rfl) (by kernel_rfl) (fun _ _ _ h => h) (Or.inl ⟨by rfl, ?_⟩) (by assumption) ?_
              rotate_left
              · intro w hSw
                (try dsimp only at hSw)
                go_simp
                with_reducible rfl
              (try simp only [Act.put, List.setIfInBounds_toArray, List.set_cons_zero, List.set_cons_succ])
              refine wpAnyH_take (i := 6) (oi := { dst := (some 108), op := (Op.nilCheck (Operand.tmp 106)), type := 0, pos := "replace.go:541", after := #[{ on := 4, ground := Ground.data }], guard := none }) (v := ?_) rfl (by kernel_rfl) (by kernel_rfl) (by kernel_rfl) (fun _ _ _ h => h) (Or.inl ⟨by rfl, ?_⟩) (by assumption) ?_
              rotate_left
              · intro w hSw
                (try dsimp only at hSw)
                go_simp
                with_reducible rfl
              (try simp only [Act.put, List.setIfInBounds_toArray, List.set_cons_zero, List.set_cons_succ])
              refine wpAnyH_take (i := 7) (oi := { dst := (some 109), op := (Op.fieldAddr 352 (Operand.tmp 108) 0), type := 0, pos := "replace.go:541", after := #[{ on := 6, ground := Ground.data }], guard := none }) (v := ?_) rfl (by kernel_rfl) (by kernel_rfl) (by kernel_rfl) (fun _ _ _ h => h) (Or.inl ⟨by rfl, ?_⟩) (by assumption) ?_
              rotate_left
              · intro w hSw
                (try dsimp only at hSw)
                go_simp
                with_reducible rfl
              (try simp only [Act.put, List.setIfInBounds_toArray, List.set_cons_zero, List.set_cons_succ])
              refine wpAnyH_take (i := 8) (oi := { dst := (some 110), op := (Op.indexAddr 350 (Operand.tmp 109) (Operand.tmp 107)), type := 0, pos := "replace.go:541", after := #[{ on := 7, ground := Ground.data }, { on := 5, ground := Ground.data }], guard := none }) (v := ?_) rfl (by kernel_rfl) (by kernel_rfl) (by kernel_rfl) (fun _ _ _ h => h) (Or.inl ⟨by rfl, ?_⟩) (by assumption) ?_
              rotate_left
              · intro w hSw
                (try dsimp only at hSw)
                go_simp
                with_reducible rfl
              (try simp only [Act.put, List.setIfInBounds_toArray, List.set_cons_zero, List.set_cons_succ])
              refine wpAnyH_take (i := 9) (oi := { dst := (some 111), op := (Op.load 150 (Operand.tmp 110)), type := 150, pos := "replace.go:541", after := #[{ on := 8, ground := Ground.data }], guard := none }) (v := .slice (some ⟨ka, 0, none⟩) 2 ca) rfl (by kernel_rfl) (by kernel_rfl) (by kernel_rfl) (fun _ _ _ h => h) (Or.inl ⟨by rfl, fun W hW => ?_⟩) (by assumption) ?_
              · exact exec_load 150 _ rfl rfl (loadVar_slice Tryz.underlying150 ((row_cell (Below.box hg.out hW.bel hgl)).trans (by rw [List.getElem?_toArray, bs_get]; rfl)))
              (try simp only [Act.put, List.setIfInBounds_toArray, List.set_cons_zero, List.set_cons_succ])
              refine wpAnyH_ready (rs := [10]) (by kernel_rfl) (by simp) ?_
              refine AllReadyH.cons (o := { dst := (some 112), op := (Op.call { callee := (Callee.builtin Builtin.copy), args := #[(Operand.tmp 105), (Operand.tmp 111)], argTypes := #[150, 150] }), type := 3, pos := "replace.go:541", after := #[{ on := 3, ground := Ground.data }, { on := 9, ground := Ground.data }], guard := none }) rfl (fun K hK => ?_) AllReadyH.nil
              refine step_copy_splice rfl (.tmp 105) (.tmp 111) 150 150 rfl 5 Tryz.underlying150 (by kernel_rfl) (some ⟨k1, pre.length, none⟩) (some ⟨ka, 0, none⟩) (N - pre.length) (N - pre.length) 2 ca rfl rfl k1 pre.length (byV pre ++ rest) 5 hk.out [.int .u8 92, .int .u8 34] hmin.out (fun _ => ⟨rfl, _, rfl, fun j v hj => by rw [Addr.add_lit, Nat.zero_add]; exact hq2.cell hq3.out hj⟩) (by rw [List.length_append, byV_len]; simp; omega) (by intro v hv; simp at hv; rcases hv with rfl | rfl <;> rfl) w.heap.size w bx.drew.bel (Nat.le_trans bc.bel.size hlow1) ?_
              intro w3 hk3 bel3
              refine hK.out _ _ ?_ (fun hHeld => ?_)
              · exact ⟨bel3, trivial, List.Pairwise.nil, fun x h => by cases h⟩
              clear hK K
              (try simp only [Act.put, List.setIfInBounds_toArray, List.set_cons_zero, List.set_cons_succ])
              refine wpAnyH_take (i := 11) (oi := { dst := (some 113), op := (Op.binOp BinOp.add 3 (Operand.tmp 102) (Operand.tmp 112) 3), type := 3, pos := "replace.go:541", after := #[{ on := 0, ground := Ground.data }, { on := 10, ground := Ground.data }], guard := none }) (v := ?_) rfl (by kernel_rfl) (by kernel_rfl) (by kernel_rfl) (fun _ _ _ h => h) (Or.inl ⟨by rfl, ?_⟩) (by assumption) ?_
              rotate_left
              · intro w hSw
                (try dsimp only at hSw)
                go_simp
                with_reducible rfl
              (try simp only [Act.put, List.setIfInBounds_toArray, List.set_cons_zero, List.set_cons_succ])
              refine wpAnyH_take (i := 12) (oi := { dst := (some 13), op := (Op.assign (Operand.tmp 113)), type := 3, pos := "replace.go:541", after := #[{ on := 11, ground := Ground.data }, { on := 10, ground := Ground.chain }, { on := 0, ground := Ground.phase }, { on := 1, ground := Ground.phase }, { on := 2, ground := Ground.phase }, { on := 3, ground := Ground.phase }, { on := 4, ground := Ground.phase }, { on := 5, ground := Ground.phase }, { on := 6, ground := Ground.phase }, { on := 7, ground := Ground.phase }, { on := 8, ground := Ground.phase }, { on := 9, ground := Ground.phase }, { on := 10, ground := Ground.phase }, { on := 11, ground := Ground.phase }], guard := none }) (v := ?_) rfl (by kernel_rfl) (by kernel_rfl) (by kernel_rfl) (fun _ _ _ h => h) (Or.inl ⟨by rfl, ?_⟩) (by assumption) ?_
              rotate_left
              · intro w hSw
                (try dsimp only at hSw)
                go_simp
                with_reducible rfl
              (try simp only [Act.put, List.setIfInBounds_toArray, List.set_cons_zero, List.set_cons_succ])
              refine wpAnyH_done (by kernel_rfl) ?_ _
              go_wp2_with fail
              have hsp2 : splice (byV pre ++ rest) pre.length [.int .u8 92, .int .u8 34] = byV (pre ++ [92, 34]) ++ rest.drop 2 := by
                unfold splice
                rw [List.take_left' (byV_len pre), List.drop_append, byV_len, byV_app]
                rw [List.drop_eq_nil_of_le (by rw [byV_len]; simp)]
                simp [byV]
              have hk4 : Hid (w3.heap[k1]? = some (.cells (byV (pre ++ [92, 34]) ++ rest.drop 2).toArray 5 (0, 0))) := Lib.hid (by rw [← hsp2]; exact hk3.out)
              refine ⟨⟨i + 1, pre ++ [92, 34], rest.drop 2, by omega, by congr 1, by congr 1; simp only [List.length_append, List.length_cons, List.length_nil]; first | exact hsum | (rw [hsum]; simp) | simp, hHeld, hnx, hk4, by simp; omega⟩, by simp [intOf]; omega⟩
          · have h1 : s[i] ≠ 92 := fun e => hsp (.inl e)
            have h2 : s[i] ≠ 34 := fun e => hsp (.inr e)
            have hn1 : s[i].toNat ≠ 92 := fun e => h1 (UInt8.toNat_inj.1 e)
            have hn2 : s[i].toNat ≠ 34 := fun e => h2 (UInt8.toNat_inj.1 e)
            have hlt8 := s[i].toNat_lt
            have hc : wr.cell? ⟨g, s[i].toNat, none⟩ = some (.slice none 0 0) := (row_cell (Below.box hg.out bx.bel hgl)).trans (by rw [List.getElem?_toArray, bs_get, if_neg (by omega), if_neg hn1, if_neg hn2, if_pos (by omega)]; rfl)
            have he : escB s[i] = [s[i]] := by unfold escB; rw [if_neg h2, if_neg h1]
            rw [he] at hnx hroom
            obtain ⟨r0, rest', rfl⟩ : ∃ r0 rest', rest = r0 :: rest' := by
              cases rest with
              | nil => simp at hroom hlen; omega
              | cons r0 rest' => exact ⟨r0, rest', rfl⟩
            have hcell : wr.cell? ⟨k1, pre.length, none⟩ = some r0 := (row_cell hk.out).trans (by rw [List.getElem?_toArray, List.getElem?_append_right (by rw [byV_len]; exact Nat.le_refl _), byV_len, Nat.sub_self]; rfl)
            have hfrz : wr.frozen? ⟨k1, pre.length, none⟩ = false := row_free hk.out
            have hjN : decide ((pre.length : Int) < N) = true := decide_eq_true (by simp at hlen; omega)
            have hlenN : pre.length < N := by simp at hlen; omega
            have s3 := nil_neq
            have hb1 := row_set hk.out (i := pre.length) (cs' := (byV (pre ++ [s[i]]) ++ rest').toArray) (.int .u8 s[i].toNat) (by rw [List.setIfInBounds_toArray, List.set_append_right _ _ (by rw [byV_len]; exact Nat.le_refl _), byV_len, Nat.sub_self, List.set_cons_zero, byV_app, List.append_assoc]; rfl)
            have fr := Fr.setCell (S := fun b => b = k1) (Fr.refl _ wr) (p := ⟨k1, pre.length, none⟩) (.inl rfl) (.int .u8 s[i].toNat)
            have bel2 : Below w.heap.size w (wr.setCell ⟨k1, pre.length, none⟩ (.int .u8 s[i].toNat)) := bx.bel.trans (fr.belowS (fun b hb => by have := bc.bel.size; omega) bx.bel.size)
            have hl2 : pre.length + 1 + rest'.length = N := by simp at hlen; omega
            replace hb1 := Lib.hid hb1
            replace hnx := Lib.hid hnx
            clear h1 h2 hsp hget he hroom hlen
            replace hn1 := Lib.hid hn1
            replace hn2 := Lib.hid hn2
            go_wp2
            refine ⟨⟨i + 1, pre ++ [s[i]], rest', by omega, by congr 1, by congr 1; simp, ⟨bel2, trivial, List.Pairwise.nil, fun x h => by cases h⟩, hnx, hb1, by simp; omega⟩, by simp [intOf]; omega⟩
        · obtain rfl : i = s.size := by omega
          have hall := hpre.out
          rw [List.take_of_length_le (by rw [len_data]; exact Nat.le_refl _)] at hall
          have hr0 : rest = [] := List.eq_nil_of_length_eq_zero (by have := hlenE.out; rw [hall] at this; omega)
          subst hr0
          have hN2 : pre.length = N := by simpa using hlen
          have hcv : (convert 150 9 (.slice (some ⟨k1, 0, none⟩) N N)).run Tryz.prog wr = .ok (.string ⟨pre.toArray⟩) wr := by
            rw [← str_nums pre]
            refine run_convert_bytes_arg (P := Tryz.prog) wr 150 5 Tryz.underlying150 Tryz.underlying5 k1 0 N N (pre.map fun b => (b.toNat : Int)) (by rw [List.length_map]; exact hN2) (fun j hj => ?_) 9 Tryz.underlying9
            rw [Nat.zero_add]
            refine (row_cell hk.out).trans ?_
            rw [List.getElem?_toArray, List.append_nil]
            unfold byV
            rw [List.getElem?_map, List.getD_eq_getElem?_getD, List.getElem?_map, List.getElem?_eq_getElem (by omega)]; rfl
          replace hall := Lib.hid hall
          replace hN2 := Lib.hid hN2
          clear hlen
          go_wp2
          go_ret
          exact ⟨by rw [hall.out]; rfl, bx.bel⟩
end
end Go.Proofs.YtnljjlaececnkaaGreatDoor
/-
  A Replacer's Replace; a word as it is written. Condition: a text of no more than the program's bound.
-/
namespace Go.Proofs.YtnljjlaececnkaaGreatDoor
open Go.RowKit
set_option linter.unusedVariables false
set_option linter.unusedSimpArgs false
theorem inv353 (x : Addr) (W : World) : (method 521 353 (.pointer (some x)) "Replace").run Tryz.prog W = .ok (361, .pointer (some x)) W := by kernel_rfl
theorem ba_cat (a b : List UInt8) : ((⟨a.toArray⟩ : ByteArray) ++ ⟨b.toArray⟩) = ⟨(a ++ b).toArray⟩ := by
  apply ByteArray.ext
  rw [ByteArray.data_append]
  simp
theorem cnt_le (s : ByteArray) (c : UInt8) : s.data.toList.count c ≤ s.size := by
  rw [← len_data]; exact List.count_le_length
set_option maxRecDepth 100000 in
set_option maxHeartbeats 1600000 in
theorem repl_any {W : World} {B b k c : Nat} {r : Value} {ok : Obj} (hBb : B ≤ b) (hBW : B ≤ W.heap.size) (hb : W.heap[b]? = some (oRep 0 0 r (.slice (some ⟨k, 0, none⟩) 4 c))) (hk : W.heap[k]? = some ok) (hkb : k ≠ b) (hr : RowIn ok (strs RL)) {s : ByteArray} (hs : s.size < 4294967281) :
    Calls Tryz.prog 171 #[.pointer (some ⟨b, 0, none⟩), .string s] W fun e w' => e = .returned (.string ⟨(escL s.data.toList).toArray⟩) ∧ Below B W w' := by
  have hd := do_any hb hk hkb hr
  clear hb hk hkb hr
  go_enter Tryz.func171, Tryz.ntmps171
  go_upto_region 2 with (go_at_call 208; refine hd.mono ?_; clear hd; rintro e w2 ⟨rfl, hbt, hf⟩)
  obtain ⟨g, pre, ⟨ka, kb, kt, ca, cb, ct, oa, ob, ot, m1, m2, m3, m4, r1, r2, r3⟩, hall, hlow, hbox⟩ := hbt
  have c3 := (oRep_cells hbox).2.2.1
  have hrp := rep_head hs rfl rfl (hall _ m1) (hall _ m4) r3 ⟨oa, hall _ m2, r1⟩ ⟨ob, hall _ m3, r2⟩ ⟨cnt_le s 92, cnt_le s 34⟩ rfl
  have bel2 : Below B W w2 := hf.belowS (fun x hx => by rw [hx]; exact hBb) hBW
  have hsz : B ≤ w2.heap.size := Nat.le_trans hBW bel2.size
  clear hf hbox hall hlow m1 m2 m3 m4 r1 r2 r3
  replace bel2 := Lib.hid bel2
  have hinv := fun W => inv353 ⟨g, 0, none⟩ W
  go_wp2_with (go_at_call 361; refine hrp.mono ?_; clear hrp; rintro e w3 ⟨rfl, bel3⟩)
  go_ret
  exact ⟨rfl, bel2.out.trans (bel3.mono hsz)⟩
/-- May a word be written as it is? -/
def plainW (l : List UInt8) : Bool := match l with
  | [] => false
  | c :: _ => c != 34 && c != 35 && !(decide (0 ≤ Lib.indexByte l 32))
/-- A word, as it is written. -/
def wordL (l : List UInt8) : List UInt8 := if plainW l then l else [34] ++ escL l ++ [34]
theorem plain_cons {s : ByteArray} (h : 0 < s.size) : plainW s.data.toList = (s[0] != 34 && s[0] != 35 && !(decide (0 ≤ Lib.indexByte s.data.toList 32))) := by
  have hg := get_byte s 0 h
  generalize s.data.toList = l at *
  cases l with
  | nil => cases hg
  | cons c l => simp at hg; subst hg; rfl
theorem esc_le (l : List UInt8) : (escL l).length ≤ 3 * l.length := by
  rw [esc_len]
  have h1 := List.count_le_length (a := (92 : UInt8)) (l := l)
  have h2 := List.count_le_length (a := (34 : UInt8)) (l := l)
  omega
set_option maxRecDepth 100000 in
set_option maxHeartbeats 1600000 in
theorem word_any {w : World} {s : ByteArray} (hs : s.size < 4294967281) : Calls Tryz.prog 113 #[.string s] w fun e w' => e = .returned (.string ⟨(wordL s.data.toList).toArray⟩) ∧ Below w.heap.size w w' := by
  have hc := fun W => Tryz.strings_Contains_one s 32 W
  have hrep := fun {W : World} {b k c : Nat} {r : Value} {ok : Obj} (h1 : w.heap.size ≤ b) (h2 : w.heap.size ≤ W.heap.size) h3 h4 h5 h6 => repl_any (W := W) (B := w.heap.size) (b := b) (k := k) (c := c) (r := r) (ok := ok) h1 h2 h3 h4 h5 h6 hs
  obtain ⟨pl, hpl⟩ : ∃ pl, plainW s.data.toList = pl := ⟨_, rfl⟩
  have hlen := esc_le s.data.toList
  rw [len_data] at hlen
  replace hlen := Lib.hid hlen
  go_enter Tryz.func113, Tryz.ntmps113
  go_upto_region 1 with fail
  go_cut [19] from 3 to 26 (fun x19 W => x19 = .bool pl ∧ W = w)
  case first =>
    by_cases h0 : 0 < s.size
    · rw [plain_cons h0] at hpl
      have n1 : (s.toList == ([] : List UInt8)) = false := by
        rw [Lib.toList_data] 
        have := len_data s
        cases h : s.data.toList with
        | nil => rw [h] at this; simp at this; omega
        | cons c l => rfl
      have n2 : (s.toList != ([] : List UInt8)) = true := by show (!(s.toList == ([] : List UInt8))) = true; rw [n1]; rfl
      by_cases h1 : s[0] = 34
      · have hv : s[0].toNat = 34 := by rw [h1]; rfl
        have hq : pl = false := by rw [← hpl, h1]; rfl
        subst hq
        go_wp2
        go_meet
        exact ⟨rfl, rfl⟩
      · have hn1 : s[0].toNat ≠ 34 := fun e => h1 (UInt8.toNat_inj.1 e)
        by_cases h2 : s[0] = 35
        · have hv : s[0].toNat = 35 := by rw [h2]; rfl
          have hq : pl = false := by rw [← hpl, h2]; rfl
          subst hq
          go_wp2
          go_meet
          exact ⟨rfl, rfl⟩
        · have hn2 : s[0].toNat ≠ 35 := fun e => h2 (UInt8.toNat_inj.1 e)
          have hq : pl = !(decide (0 ≤ Lib.indexByte s.data.toList 32)) := by
            rw [← hpl]; simp [h1, h2]
          subst hq
          clear hpl
          go_wp2_with (go_at_call 169; refine (hc _).mono ?_; rintro e w' ⟨rfl, rfl⟩)
          go_meet
          refine ⟨?_, rfl⟩
          rw [show ((s[0].toNat : Int) != 34) = true by simp; omega, show ((s[0].toNat : Int) != 35) = true by simp; omega]; rfl
    · have n1 : (s.toList == ([] : List UInt8)) = true := by
        rw [Lib.toList_data] 
        have := len_data s
        cases h : s.data.toList with
        | nil => rfl
        | cons c l => rw [h] at this; simp at this; omega
      have n2 : (s.toList != ([] : List UInt8)) = false := by show (!(s.toList == ([] : List UInt8))) = false; rw [n1]; rfl
      have hq : pl = false := by
        rw [← hpl]
        have := len_data s
        cases h : s.data.toList with
        | nil => rfl
        | cons c l => rw [h] at this; simp at this; omega
      subst hq
      go_wp2
      go_meet
      exact ⟨rfl, rfl⟩
  case rest =>
    obtain ⟨rfl, rfl⟩ := hcut
    cases pl with
    | true =>
      go_wp2
      go_ret
      exact ⟨by unfold wordL; rw [hpl]; rfl, Below.refl _ _⟩
    | false =>
      have hw : Hid (wordL s.data.toList = [34] ++ escL s.data.toList ++ [34]) := Lib.hid (by unfold wordL; rw [hpl]; rfl)
      clear hpl hc
      have hL1 : ¬ 9223372036854775807 < 1 + (escL s.data.toList).length := by have := hlen.out; omega
      have hL2 : ¬ 9223372036854775807 < 1 + (escL s.data.toList).length + 1 := by have := hlen.out; omega
      go_wp2_with (first | (go_at_call 170; refine (newrep_any (box1 wc _)).mono ?_; rintro e w2 ⟨⟨b, k, c, ok, rfl, hk1, hkb, hbx, hkx, hri⟩, bel⟩; rw [World.size_alloc] at hk1 bel; have hb1 : wc.heap.size ≤ b := (by omega); have hb2 : wc.heap.size ≤ w2.heap.size := (by have := lt_of_obj hbx; omega); have hr3 := hrep hb1 hb2 hbx hkx (by omega) hri; have bel2 : Below wc.heap.size wc w2 := ((Below.refl _ wc).alloc (Nat.le_refl _) _).trans (bel.mono (Nat.le_succ _)); clear hrep) | (go_at_call 171; refine hr3.mono ?_; clear hr3; rintro e w3 ⟨rfl, bel3⟩))
      go_ret
      exact ⟨by rw [hw.out, ← ba_cat, ← ba_cat]; rfl, bel2.trans bel3⟩
end Go.Proofs.YtnljjlaececnkaaGreatDoor
/-
  The reader of words: may a byte stand here; the next byte; a run of bytes. No condition.
-/
namespace Go.Proofs.YtnljjlaececnkaaGreatDoor
open Go.RowKit
set_option linter.unusedVariables false
set_option linter.unusedSimpArgs false
/-- May this byte stand in a line? -/
def mayB (c : UInt8) : Bool := decide (32 ≤ (c.toNat : Int)) && decide ((c.toNat : Int) ≤ 126)
/-- What reads. -/
def oSc (s : ByteArray) (i e : Int) : Obj := .cells #[.string s, .int .i64 i, .int .i64 e] 138 (0, 0)
/-- The next byte, if there is one that may stand there. -/
def nextS (l : List UInt8) (e : Int) : Int × Bool × Int := if e ≠ 0 then (0, false, e) else match l with
  | [] => (0, false, 0)
  | c :: _ => if mayB c = true then (c.toNat, true, 0) else (0, false, 81)
/-- A run up to a byte: what is left, and the fault. -/
def runS (st : Int) : List UInt8 → List UInt8 × Int
  | [] => ([], 0)
  | c :: r => if mayB c = false then (c :: r, 81) else if (c.toNat : Int) = st then (c :: r, 0) else runS st r
theorem may_any {w : World} (c : UInt8) : Calls Tryz.prog 158 #[.int .u8 c.toNat] w fun e w' => e = .returned (.bool (mayB c)) ∧ w' = w := by
  by_cases h : (32 : Int) ≤ c.toNat
  · have hd : decide ((32 : Int) ≤ c.toNat) = true := decide_eq_true h
    have hq : mayB c = decide ((c.toNat : Int) ≤ 126) := by unfold mayB; rw [hd]; rfl
    go_enter Tryz.func158, Tryz.ntmps158
    go_wp2
    go_ret
    exact ⟨by first | rfl | (rw [hq]; rfl), rfl⟩
  · have hd : decide ((32 : Int) ≤ c.toNat) = false := decide_eq_false h
    have hq : mayB c = false := by unfold mayB; rw [hd]; rfl
    go_enter Tryz.func158, Tryz.ntmps158
    go_wp2
    go_ret
    exact ⟨by first | rfl | (rw [hq]; rfl), rfl⟩
theorem sc_cells {W : World} {g : Nat} {s : ByteArray} {i e : Int} (h : W.heap[g]? = some (oSc s i e)) : W.cell? ⟨g, 0, none⟩ = some (.string s) ∧ W.cell? ⟨g, 1, none⟩ = some (.int .i64 i) ∧ W.cell? ⟨g, 2, none⟩ = some (.int .i64 e) ∧ ∀ j, W.frozen? ⟨g, j, none⟩ = false :=
  ⟨(row_cell h).trans rfl, (row_cell h).trans rfl, (row_cell h).trans rfl, fun j => row_free h⟩
theorem sc_set {W : World} {g : Nat} {s : ByteArray} {i e : Int} (h : W.heap[g]? = some (oSc s i e)) : (∀ x : Int, (W.setCell ⟨g, 1, none⟩ (.int .i64 x)).heap[g]? = some (oSc s x e)) ∧ ∀ x : Int, (W.setCell ⟨g, 2, none⟩ (.int .i64 x)).heap[g]? = some (oSc s i x) :=
  ⟨fun x => row_set h _ rfl, fun x => row_set h _ rfl⟩
theorem drop_cons {s : ByteArray} {i : Nat} {c : UInt8} {r : List UInt8} (h : s.data.toList.drop i = c :: r) : ∃ hi : i < s.size, s[i] = c ∧ s.data.toList.drop (i + 1) = r := by
  have h2 : s.data.toList[i]? = some c := by
    have := congrArg (fun l => l[0]?) h
    simpa [List.getElem?_drop] using this
  have hi : i < s.size := by
    have := (List.getElem?_eq_some_iff.1 h2).1
    rwa [len_data] at this
  refine ⟨hi, ?_, ?_⟩
  · have := get_byte s i hi
    rw [h2] at this
    exact (Option.some.inj this).symm
  · rw [← List.drop_drop, h]; rfl
theorem drop_nil {s : ByteArray} {i : Nat} (hi : i ≤ s.size) (h : s.data.toList.drop i = []) : i = s.size := by
  have := congrArg List.length h
  rw [List.length_drop, len_data] at this
  simp at this; omega
set_option maxRecDepth 100000 in
set_option maxHeartbeats 1600000 in
theorem next_any {W : World} {g : Nat} {s : ByteArray} {i : Nat} {e : Int} {l : List UInt8} (hg : W.heap[g]? = some (oSc s i e)) (hi : i ≤ s.size) (hl : s.data.toList.drop i = l) :
    Calls Tryz.prog 94 #[.pointer (some ⟨g, 0, none⟩)] W fun e' w' => e' = .returned (.tuple #[.int .u8 (nextS l e).1, .bool (nextS l e).2.1]) ∧ w'.heap[g]? = some (oSc s i (nextS l e).2.2) ∧ Fr (fun b => b = g) W w' := by
  obtain ⟨c0, c1, c2, cf⟩ := sc_cells hg
  have f2 := cf 2
  by_cases he : e = 0
  · subst he
    cases l with
    | nil =>
      obtain rfl := drop_nil hi hl
      have hq : nextS [] 0 = (0, false, 0) := rfl
      rw [hq]
      replace hg := Lib.hid hg
      clear hl cf
      go_enter Tryz.func94, Tryz.ntmps94
      go_wp2
      repeat (go_quiet (fail); try go_wp2)
      go_ret2
      exact ⟨rfl, hg.out, (Fr.refl _ _).drewN _⟩
    | cons c r =>
      obtain ⟨hlt, hc, -⟩ := drop_cons hl
      subst hc
      have hm := fun w => may_any (w := w) s[i]
      have hne : ((i : Int) == s.size) = false := by simp; omega
      have h2 := (sc_set hg).2 81
      replace hg := Lib.hid hg
      replace h2 := Lib.hid h2
      clear hl cf
      cases hb : mayB s[i] with
      | true =>
        have hq : nextS (s[i] :: r) 0 = ((s[i].toNat : Int), true, 0) := by unfold nextS; simp [hb]
        rw [hq]
        rw [hb] at hm
        go_enter Tryz.func94, Tryz.ntmps94
        go_wp2_with (go_at_call 158; refine (hm _).mono ?_; rintro e' w' ⟨rfl, rfl⟩)
        repeat (go_quiet (fail); try go_wp2_with (go_at_call 158; refine (hm _).mono ?_; rintro e' w' ⟨rfl, rfl⟩))
        go_ret2
        exact ⟨rfl, hg.out, (Fr.refl _ _).drewN _⟩
      | false =>
        have hq : nextS (s[i] :: r) 0 = (0, false, 81) := by unfold nextS; simp [hb]
        rw [hq]
        rw [hb] at hm
        go_enter Tryz.func94, Tryz.ntmps94
        go_wp2_with (go_at_call 158; refine (hm _).mono ?_; rintro e' w' ⟨rfl, rfl⟩)
        repeat (go_quiet (fail); try go_wp2_with (go_at_call 158; refine (hm _).mono ?_; rintro e' w' ⟨rfl, rfl⟩))
        go_ret2
        exact ⟨rfl, h2.out, Fr.setCell (S := fun b => b = g) ((Fr.refl _ W).drewN _) (p := ⟨g, 2, none⟩) (.inl rfl) _⟩
  · have hq : nextS l e = (0, false, e) := by unfold nextS; rw [if_pos he]
    have hne : (e != 0) = true := by simpa using he
    rw [hq]
    replace hg := Lib.hid hg
    clear hl cf
    replace he := Lib.hid he
    go_enter Tryz.func94, Tryz.ntmps94
    go_wp2
    repeat (go_quiet (fail); try go_wp2)
    go_ret2
    exact ⟨rfl, hg.out, (Fr.refl _ _).drewN _⟩
set_option maxRecDepth 100000 in
set_option maxHeartbeats 1600000 in
theorem until_any {W : World} {g : Nat} {s : ByteArray} {i0 : Nat} {st : Int} {R : List UInt8 × Int} (hg : W.heap[g]? = some (oSc s i0 0)) (hs : s.size < 4294967281) (hi0 : i0 ≤ s.size) (hR : runS st (s.data.toList.drop i0) = R) :
    Calls Tryz.prog 95 #[.pointer (some ⟨g, 0, none⟩), .int .i64 st] W fun e' w' => ∃ j, i0 ≤ j ∧ j ≤ s.size ∧ s.data.toList.drop j = R.1 ∧ e' = .returned (.string (s.extract i0 j)) ∧ w'.heap[g]? = some (oSc s j R.2) ∧ Fr (fun b => b = g) W w' := by
  obtain ⟨c0, c1, c2, cf⟩ := sc_cells hg
  have Hg := Lib.hid hg
  have HR := Lib.hid hR
  clear hg hR c0 c2 cf
  go_enter Tryz.func95, Tryz.ntmps95
  go_wp2
  clear c1
  go_loopw [] (fun wr => ∃ i : Nat, i0 ≤ i ∧ i ≤ s.size ∧ Hid (runS st (s.data.toList.drop i) = R) ∧ Hid (wr.heap[g]? = some (oSc s i 0)) ∧ Fr (fun b => b = g) W wr) (fun wr => s.size - (match wr.cell? ⟨g, 1, none⟩ with | some v => (intOf v).toNat | none => 0))
  case atStart => exact ⟨i0, Nat.le_refl _, hi0, HR, Hg, Fr.refl _ _⟩
  case round =>
    obtain ⟨i, h1, h2, hr, hb, fr⟩ := hrel
    obtain ⟨l, hl⟩ : ∃ l, s.data.toList.drop i = l := ⟨_, rfl⟩
    have nx := next_any hb.out h2 hl
    rw [hl] at hr
    obtain ⟨-, q1, -, -⟩ := sc_cells hb.out
    rw [q1]
    clear q1
    cases l with
    | nil =>
      have hq : nextS [] 0 = (0, false, 0) := rfl
      rw [hq] at nx
      have hR : Hid (R = ([], 0)) := Lib.hid hr.out.symm
      replace hl := Lib.hid hl
      clear hr hb
      go_wp2_with (go_at_call 94; refine nx.mono ?_; clear nx; rintro e' w2 ⟨rfl, hb2, fr2⟩; obtain ⟨c0, c1, c2, cf⟩ := sc_cells hb2; clear c2 cf; have hb2 := Lib.hid hb2; have fr3 : Fr (fun b => b = g) W w2 := fr.trans fr2 (fun b hb => .inl hb))
      go_quiet (fail)
      go_wp2
      go_ret
      exact ⟨i, h1, h2, by rw [hR.out]; exact hl.out, rfl, by rw [hR.out]; exact hb2.out, fr3.drewN _⟩
    | cons c r =>
      by_cases hm : mayB c = false
      · have hq : nextS (c :: r) 0 = (0, false, 81) := by unfold nextS; simp [hm]
        rw [hq] at nx
        have hR : Hid (R = (c :: r, 81)) := Lib.hid (by rw [← hr.out]; unfold runS; rw [if_pos hm])
        replace hl := Lib.hid hl
        clear hr hb
        go_wp2_with (go_at_call 94; refine nx.mono ?_; clear nx; rintro e' w2 ⟨rfl, hb2, fr2⟩; obtain ⟨c0, c1, c2, cf⟩ := sc_cells hb2; clear c2 cf; have hb2 := Lib.hid hb2; have fr3 : Fr (fun b => b = g) W w2 := fr.trans fr2 (fun b hb => .inl hb))
        go_quiet (fail)
        go_wp2
        go_ret
        exact ⟨i, h1, h2, by rw [hR.out]; exact hl.out, rfl, by rw [hR.out]; exact hb2.out, fr3.drewN _⟩
      · have hm2 : mayB c = true := by simpa using hm
        have hq : nextS (c :: r) 0 = ((c.toNat : Int), true, 0) := by unfold nextS; simp [hm2]
        rw [hq] at nx
        have hu := c.toNat_lt
        have hw : IntKind.i64.wrap (c.toNat : Int) = c.toNat := IntWalk.i64_in _ (by omega)
        by_cases hst : (c.toNat : Int) = st
        · have hR : Hid (R = (c :: r, 0)) := Lib.hid (by rw [← hr.out]; unfold runS; rw [if_neg hm, if_pos hst])
          have hst2 : ((c.toNat : Int) == st) = true := by simpa using hst
          replace hl := Lib.hid hl
          replace hst := Lib.hid hst
          clear hr hb hm hm2
          go_wp2_with (go_at_call 94; refine nx.mono ?_; clear nx; rintro e' w2 ⟨rfl, hb2, fr2⟩; obtain ⟨c0, c1, c2, cf⟩ := sc_cells hb2; clear c2 cf; have hb2 := Lib.hid hb2; have fr3 : Fr (fun b => b = g) W w2 := fr.trans fr2 (fun b hb => .inl hb))
          go_quiet (fail)
          go_wp2
          go_ret
          exact ⟨i, h1, h2, by rw [hR.out]; exact hl.out, rfl, by rw [hR.out]; exact hb2.out, fr3.drewN _⟩
        · obtain ⟨hlt, -, hd⟩ := drop_cons hl
          have hR : Hid (runS st (s.data.toList.drop (i + 1)) = R) := Lib.hid (by rw [hd, ← hr.out]; conv => rhs; unfold runS; rw [if_neg hm, if_neg hst])
          have hst2 : ((c.toNat : Int) == st) = false := by simpa using hst
          have hw2 : IntKind.i64.wrap ((i : Int) + 1) = ((i + 1 : Nat) : Int) := (IntWalk.i64_in _ (by omega)).trans (by omega)
          replace hl := Lib.hid hl
          replace hst := Lib.hid hst
          clear hr hb hm hm2 hd
          go_wp2_with (go_at_call 94; refine nx.mono ?_; clear nx; rintro e' w2 ⟨rfl, hb2, fr2⟩; obtain ⟨c0, c1, c2, cf⟩ := sc_cells hb2; have f1 := cf 1; clear c2 cf; have hb3 : Hid ((w2.setCell ⟨g, 1, none⟩ (.int .i64 ((i : Int) + 1))).heap[g]? = some (oSc s ((i + 1 : Nat) : Int) 0)) := Lib.hid ((sc_set hb2).1 _); have fr3 : Fr (fun b => b = g) W w2 := fr.trans fr2 (fun b hb => .inl hb))
          refine ⟨⟨i + 1, by omega, by omega, hR, hb3, Fr.setCell fr3 (p := ⟨g, 1, none⟩) (.inl rfl) _⟩, ?_⟩
          rw [(sc_cells hb3.out).2.1]
          simp [intOf]; omega
end Go.Proofs.YtnljjlaececnkaaGreatDoor
