/-
  Comparing addresses, prefixes, pairs. Condition: an address is sixteen bytes, a length a machine's number.
-/
import Derived.Test.YtnljjlaececnkaaGreatDoorI
import Derived.Test.YtnljjlaececnkaaGreatDoorF
import Derived.Lib.BytesEntry
import Derived.Laws.Externs
namespace Go.Proofs.YtnljjlaececnkaaGreatDoor
open Go.RowKit
set_option linter.unusedVariables false
set_option linter.unusedSimpArgs false
theorem lexc_first : ∀ (i : Nat) (a b : List Int) (x y : Int), (∀ j, j < i → a[j]? = b[j]?) → a[i]? = some x → b[i]? = some y → x ≠ y → lexc a b = if x < y then -1 else 1
  | 0, [], b, x, y, _, h, _, _ => by simp at h
  | 0, _ :: _, [], x, y, _, _, h, _ => by simp at h
  | 0, p :: a, q :: b, x, y, _, h1, h2, hn => by
    simp at h1 h2
    subst h1 h2
    unfold lexc
    split
    · rfl
    · rw [if_pos (by omega)]
  | i + 1, [], b, x, y, _, h, _, _ => by simp at h
  | i + 1, _ :: _, [], x, y, _, _, h, _ => by simp at h
  | i + 1, p :: a, q :: b, x, y, hall, h1, h2, hn => by
    have h0 := hall 0 (by omega)
    simp at h0
    subst h0
    unfold lexc
    rw [if_neg (by omega), if_neg (by omega)]
    exact lexc_first i a b x y (fun j hj => by have := hall (j + 1) (by omega); simpa using this) (by simpa using h1) (by simpa using h2) hn
theorem ba_get (l : List UInt8) (i : Nat) (h : i < l.length) : (⟨l.toArray⟩ : ByteArray)[i]! = l[i] := by
  rw [Lib.get!_eq, List.getD_eq_getElem?_getD, List.getElem?_eq_getElem h]; rfl
theorem cmp_lex {a b : List Int} (ha : ∀ x ∈ a, 0 ≤ x ∧ x < 256) (hb : ∀ x ∈ b, 0 ≤ x ∧ x < 256) (hl : a.length = b.length) : Extern.BytealgCompare.cmp ⟨(Lib.bytesOf a).toArray⟩ ⟨(Lib.bytesOf b).toArray⟩ = lexc a b := by
  have la : (Lib.bytesOf a).length = a.length := by simp [Lib.bytesOf]
  have lb : (Lib.bytesOf b).length = b.length := by simp [Lib.bytesOf]
  have sa : (⟨(Lib.bytesOf a).toArray⟩ : ByteArray).size = a.length := by show (Lib.bytesOf a).toArray.size = _; simp [la]
  have sb : (⟨(Lib.bytesOf b).toArray⟩ : ByteArray).size = b.length := by show (Lib.bytesOf b).toArray.size = _; simp [lb]
  have key : ∀ i (h1 : i < a.length) (h2 : i < b.length), ((Lib.bytesOf a)[i]'(by omega) = (Lib.bytesOf b)[i]'(by omega) ↔ a[i] = b[i]) ∧ ((Lib.bytesOf a)[i]'(by omega) < (Lib.bytesOf b)[i]'(by omega) ↔ a[i] < b[i]) := by
    intro i h1 h2
    have xa := ha _ (List.getElem_mem h1)
    have xb := hb _ (List.getElem_mem h2)
    have e1 : (Lib.bytesOf a)[i]'(by omega) = a[i].toNat.toUInt8 := by simp [Lib.bytesOf]
    have e2 : (Lib.bytesOf b)[i]'(by omega) = b[i].toNat.toUInt8 := by simp [Lib.bytesOf]
    rw [e1, e2]
    have n1 : (a[i].toNat.toUInt8).toNat = a[i].toNat := by simp; omega
    have n2 : (b[i].toNat.toUInt8).toNat = b[i].toNat := by simp; omega
    refine ⟨⟨fun h => ?_, fun h => by rw [h]⟩, ?_⟩
    · have := congrArg UInt8.toNat h
      rw [n1, n2] at this; omega
    · rw [UInt8.lt_iff_toNat_lt, n1, n2]; omega
  unfold Extern.BytealgCompare.cmp
  rw [sa, sb, hl, Nat.min_self]
  split
  · rename_i i hf
    obtain ⟨hp, hi, hall⟩ := List.find?_range_eq_some.1 hf
    have hi2 : i < b.length := List.mem_range.1 hi
    have hi1 : i < a.length := by omega
    rw [ba_get _ _ (by omega), ba_get _ _ (by omega)] at hp ⊢
    have hne : a[i] ≠ b[i] := fun e => by
      have := (key i hi1 hi2).1.2 e
      rw [this] at hp; simp at hp
    rw [lexc_first i a b a[i] b[i] (fun j hj => ?_) (List.getElem?_eq_getElem hi1) (List.getElem?_eq_getElem hi2) hne]
    · by_cases hlt : a[i] < b[i]
      · rw [if_pos hlt, if_pos ((key i hi1 hi2).2.2 hlt)]
      · rw [if_neg hlt, if_neg (fun h => hlt ((key i hi1 hi2).2.1 h))]
    · have hj2 := hall j hj
      rw [ba_get _ _ (by omega), ba_get _ _ (by omega)] at hj2
      have he : (Lib.bytesOf a)[j]'(by omega) = (Lib.bytesOf b)[j]'(by omega) := by simpa using hj2
      rw [List.getElem?_eq_getElem (by omega), List.getElem?_eq_getElem (by omega), (key j (by omega) (by omega)).1.1 he]
  · rename_i hf
    have hab : a = b := by
      apply List.ext_getElem hl
      intro i h1 h2
      have := List.find?_eq_none.1 hf i (List.mem_range.2 h2)
      rw [ba_get _ _ (by omega), ba_get _ _ (by omega)] at this
      exact (key i h1 h2).1.1 (by simpa using this)
    subst hab
    rw [if_neg (by omega), if_neg (by omega)]
    exact ((lexc_zero a a rfl).2 rfl).symm
theorem compare_run {w : World} {g h : Nat} {a b : List Int} (ha : isA a) (hb : isA b) (hg : w.heap[g]? = some (oA a)) (hh : w.heap[h]? = some (oA b)) :
    (callFunc 168 #[.slice (some ⟨g, 0, none⟩) 16 16, .slice (some ⟨h, 0, none⟩) 16 16]).run Tryz.prog w = .ok (.value (.int .i64 (cmpA a b))) w := by
  have l : ∀ {g : Nat} {a : List Int}, isA a → w.heap[g]? = some (oA a) → (Extern.Bytes.bytesOf (.slice (some ⟨g, 0, none⟩) 16 16)).run Tryz.prog w = .ok ⟨(Lib.bytesOf a).toArray⟩ w := by
    intro g a ha hg
    have hr := row_load hg
    have := Lib.run_loadBytesX (P := Tryz.prog) w a ⟨g, 0, none⟩ .empty (fun j x hj => by
      have := hr j _ (nums_get (k := .u8) hj)
      rw [Addr.add_mid]; exact this)
    rw [ha.1] at this
    show (Extern.Bytes.loadBytes ⟨g, 0, none⟩ 16 .empty).run Tryz.prog w = _
    rw [this]
    congr 1
    simp [ByteArray.empty, ByteArray.emptyWithCapacity]
    try rfl
  rw [run_callFunc_extern (e := Extern.BytealgCompare.compare) Tryz.func168 (by kernel_rfl) (by kernel_rfl) (by kernel_rfl) (by kernel_rfl)]
  have : (Extern.BytealgCompare.compare #[.slice (some ⟨g, 0, none⟩) 16 16, .slice (some ⟨h, 0, none⟩) 16 16]).run Tryz.prog w = .ok (.int .i64 (cmpA a b)) w := by
    have h1 := l ha hg
    have h2 := l hb hh
    change Sem.run Tryz.prog (do
      let x ← Extern.Bytes.bytesOf (.slice (some ⟨g, 0, none⟩) 16 16)
      let y ← Extern.Bytes.bytesOf (.slice (some ⟨h, 0, none⟩) 16 16)
      pure (goInt (Extern.BytealgCompare.cmp x y))) w = _
    simp only [Sem.run_bind, h1, h2, Result.andThen_ok, Sem.run_pure]
    rw [cmp_lex ha.2 hb.2 (by rw [ha.1, hb.1])]
    rfl
  rw [this]; rfl
theorem exec_load {P : Program} {o : Oper} {a : Act} {w : World} {v : Value} (ty : TypeId) (x : Operand) (ho : o.op = .load ty x) {p : Addr} (hx : a.eval x = .pointer (some p)) (h : (loadVar ty p).run P w = .ok v w) : (execOp a.eval o).run P w = .ok (.value v) w := by
  unfold execOp
  simp only [ho, hx, Instr.loadAt, Instr.sureAddr, Sem.run_bind, Sem.run_pure, Result.andThen_ok, h]
set_option maxRecDepth 100000 in
set_option maxHeartbeats 400000 in
theorem bcmp {w : World} {g h : Nat} {a b : List Int} (ha : isA a) (hb : isA b) (hg : w.heap[g]? = some (oA a)) (hh : w.heap[h]? = some (oA b)) : Calls Tryz.prog 112 #[.slice (some ⟨g, 0, none⟩) 16 16, .slice (some ⟨h, 0, none⟩) 16 16] w fun e w' => e = .returned (.int .i64 (cmpA a b)) ∧ w' = w := by
  have hcr := compare_run ha hb hg hh
  clear ha hb hg hh
  go_enter Tryz.func112, Tryz.ntmps112
  go_wp2_with fail
  go_ret
  exact ⟨rfl, rfl⟩
set_option maxRecDepth 100000 in
set_option maxHeartbeats 400000 in
/-- Compare. -/
theorem cmp_any {w : World} {a b : List Int} (ha : isA a) (hb : isA b) : Calls Tryz.prog 43 #[vA a, vA b] w fun e w' => e = .returned (.int .i64 (cmpA a b)) ∧ Below w.heap.size w w' := by
  replace ha := Lib.hid ha
  replace hb := Lib.hid hb
  unfold vA
  go_enter Tryz.func43, Tryz.ntmps43
  go_wp2_with fail
  refine wp_region_C (C := Bx w w.heap.size [(w.heap.size, oA a), (w.heap.size + 1, oA b)]) (by kernel_rfl) (by kernel_rfl) (Bx.drew (Bx.start2 w (oA a) (oA b))) ?_
  refine wpQuiet_hide ?_
  intro lq hlq
  refine wpQuiet_step_h hlq ?_
  clear hlq lq
  intro K lq hlq hK
  refine wanted_go (by rfl) ?_
  refine ⟨?_, fun W hW => ?_, ?_⟩
  rotate_left
  · skip
    go_simp
    with_reducible rfl
  refine hK _ ?_
  clear hK K
  (try simp only [Act.put, List.setIfInBounds_toArray, List.set_cons_zero, List.set_cons_succ])
  refine wpQuiet_step_h hlq ?_
  clear hlq lq
  intro K lq hlq hK
  refine wanted_go (by rfl) ?_
  refine ⟨?_, fun W hW => ?_, ?_⟩
  rotate_left
  · skip
    go_simp
    with_reducible rfl
  refine hK _ ?_
  clear hK K
  (try simp only [Act.put, List.setIfInBounds_toArray, List.set_cons_zero, List.set_cons_succ])
  refine wpQuiet_step_h hlq ?_
  clear hlq lq
  intro K lq hlq hK
  refine wanted_go (by rfl) ?_
  refine ⟨.int .i64 (cmpA a b), fun W hW => ?_, ?_⟩
  · go_simp
    refine (bcmp ha.out hb.out hW.2.1.1 hW.2.1.2.1).mono fun e W2 hc2 => ⟨hc2.1, by rw [hc2.2]; exact hW⟩
  refine hK _ ?_
  clear hK K
  (try simp only [Act.put, List.setIfInBounds_toArray, List.set_cons_zero, List.set_cons_succ])
  refine wpQuiet_step_h hlq ?_
  clear hlq lq
  intro K lq hlq hK
  refine wanted_go (by rfl) ?_
  refine ⟨?_, fun W hW => ?_, ?_⟩
  rotate_left
  · skip
    go_simp
    with_reducible rfl
  refine hK _ ?_
  clear hK K
  (try simp only [Act.put, List.setIfInBounds_toArray, List.set_cons_zero, List.set_cons_succ])
  refine wpQuiet_nil_h hlq ?_
  clear hlq lq
  intro w' hC'
  go_wp2_with fail
  go_ret
  exact ⟨rfl, hC'.1⟩
set_option maxRecDepth 100000 in
set_option maxHeartbeats 400000 in
/-- cmp.Or of two. -/
theorem or_any {w : World} {g : Nat} {x y : Int} (hg : w.heap[g]? = some (.cells #[.int .i64 x, .int .i64 y] 3 (0, 0))) : Calls Tryz.prog 109 #[.slice (some ⟨g, 0, none⟩) 2 2] w fun e w' => e = .returned (.int .i64 (or2 x y)) ∧ w' = w := by
  have hc : ∀ (i : Nat) (v : Int), [x, y][i]? = some v → w.cell? ⟨g, i, none⟩ = some (.int .i64 v) := fun i v hv => (row_cell hg).trans (by
    match i, hv with
    | 0, h => cases h; rfl
    | 1, h => cases h; rfl)
  clear hg
  replace hc := Lib.hid hc
  go_enter Tryz.func109, Tryz.ntmps109
  go_wp2_with fail
  go_loop [8] (fun vi => ∃ i : Nat, vi = .int .i64 i ∧ i ≤ 2 ∧ Hid (∀ (j : Nat) (v : Int), j < i → [x, y][j]? = some v → v = 0)) (fun vi => 2 - (intOf vi).toNat)
  case atStart => exact ⟨0, rfl, by omega, fun j v h => by omega⟩
  case round =>
    obtain ⟨i, rfl, hi, hall⟩ := hrel
    by_cases hlt : i < 2
    · obtain ⟨v, hv⟩ := get_some (l := [x, y]) (j := i) hlt
      have cv := hc.out i v hv
      by_cases h0 : v = 0
      · have hall2 : Hid (∀ (j : Nat) (u : Int), j < i + 1 → [x, y][j]? = some u → u = 0) := Lib.hid (fun j u hj hu => by
          by_cases hji : j = i
          · subst hji; rw [hv] at hu; cases hu; exact h0
          · exact hall.out j u (by omega) hu)
        rw [h0] at cv
        clear hv h0
        go_wp2_with fail
        exact ⟨⟨i + 1, by go_num, by omega, hall2⟩, by simp [intOf]; omega⟩
      · have hr : or2 x y = v := by
          unfold or2
          match i, hlt, hv, hall.out with
          | 0, _, hv, _ => cases hv; rw [if_neg h0]
          | 1, _, hv, ha => cases hv; rw [if_pos (ha 0 x (by omega) rfl)]
        replace hr := Lib.hid hr
        have hb : (v == 0) = false := by simpa using h0
        replace h0 := Lib.hid h0
        clear hv
        go_wp2_with fail
        go_ret
        exact ⟨by rw [hr.out]; rfl, rfl⟩
    · obtain rfl : i = 2 := by omega
      have hr : or2 x y = 0 := by
        unfold or2
        rw [if_pos (hall.out 0 x (by omega) rfl)]
        exact hall.out 1 y (by omega) rfl
      replace hr := Lib.hid hr
      go_wp2_with fail
      go_ret
      exact ⟨by rw [hr.out]; rfl, rfl⟩
theorem cmpI {w : World} (x y : Int) : Calls Tryz.prog 110 #[.int .i64 x, .int .i64 y] w fun e w' => e = .returned (.int .i64 (Lib.compareInt x y)) ∧ w' = w := Tryz.cmp_Compare_int x y w
set_option maxRecDepth 100000 in
set_option maxHeartbeats 1600000 in
/-- ComparePrefix. -/
theorem cmpP_any {w : World} {p q : Pf} (hp : p.ok) (hq : q.ok) : Calls Tryz.prog 42 #[vPf p, vPf q] w fun e w' => e = .returned (.int .i64 (cmpP p q)) ∧ Below w.heap.size w w' := by
  have hb := Bx.start2 w (oP p) (oP q)
  replace hp := Lib.hid hp
  replace hq := Lib.hid hq
  unfold vPf
  go_enter Tryz.func42, Tryz.ntmps42
  go_wp2_with fail
  refine wp_region_held_drew (S := (Bx w w.heap.size [(w.heap.size, oP p), (w.heap.size + 1, oP q)])) (by kernel_rfl) (Bx.drew hb) (fun hHeld => ?_)
  refine wpAnyH_take (i := 0) (oi := { dst := (some 5), op := (Op.fieldAddr 55 (Operand.tmp 2) 0), type := 0, pos := "addr.go:151", after := #[], guard := none }) (v := ?_) rfl (by kernel_rfl) (by kernel_rfl) (by kernel_rfl) (fun _ _ _ h => h) (Or.inl ⟨by rfl, ?_⟩) (by assumption) ?_
  rotate_left
  · intro w hSw
    (try dsimp only at hSw)
    go_simp
    with_reducible rfl
  (try simp only [Act.put, List.setIfInBounds_toArray, List.set_cons_zero, List.set_cons_succ])
  refine wpAnyH_take (i := 1) (oi := { dst := (some 6), op := (Op.load 42 (Operand.tmp 5)), type := 42, pos := "addr.go:151", after := #[{ on := 0, ground := Ground.data }], guard := none }) (v := vA p.a) rfl (by kernel_rfl) (by kernel_rfl) (by kernel_rfl) (fun _ _ _ h => h) (Or.inl ⟨by rfl, fun W hW => ?_⟩) (by assumption) ?_
  · obtain ⟨q1, q2, q3⟩ := BoxP.run hW.2.1.1 hp.out.1
    exact exec_load 42 _ rfl rfl q1
  (try simp only [Act.put, List.setIfInBounds_toArray, List.set_cons_zero, List.set_cons_succ])
  refine wpAnyH_take (i := 2) (oi := { dst := (some 7), op := (Op.fieldAddr 55 (Operand.tmp 3) 0), type := 0, pos := "addr.go:151", after := #[], guard := none }) (v := ?_) rfl (by kernel_rfl) (by kernel_rfl) (by kernel_rfl) (fun _ _ _ h => h) (Or.inl ⟨by rfl, ?_⟩) (by assumption) ?_
  rotate_left
  · intro w hSw
    (try dsimp only at hSw)
    go_simp
    with_reducible rfl
  (try simp only [Act.put, List.setIfInBounds_toArray, List.set_cons_zero, List.set_cons_succ])
  refine wpAnyH_take (i := 3) (oi := { dst := (some 8), op := (Op.load 42 (Operand.tmp 7)), type := 42, pos := "addr.go:151", after := #[{ on := 2, ground := Ground.data }], guard := none }) (v := vA q.a) rfl (by kernel_rfl) (by kernel_rfl) (by kernel_rfl) (fun _ _ _ h => h) (Or.inl ⟨by rfl, fun W hW => ?_⟩) (by assumption) ?_
  · obtain ⟨q1, q2, q3⟩ := BoxP.run hW.2.1.2.1 hq.out.1
    exact exec_load 42 _ rfl rfl q1
  (try simp only [Act.put, List.setIfInBounds_toArray, List.set_cons_zero, List.set_cons_succ])
  refine wpAnyH_take (i := 5) (oi := { dst := (some 10), op := (Op.fieldAddr 55 (Operand.tmp 2) 1), type := 0, pos := "addr.go:151", after := #[], guard := none }) (v := ?_) rfl (by kernel_rfl) (by kernel_rfl) (by kernel_rfl) (fun _ _ _ h => h) (Or.inl ⟨by rfl, ?_⟩) (by assumption) ?_
  rotate_left
  · intro w hSw
    (try dsimp only at hSw)
    go_simp
    with_reducible rfl
  (try simp only [Act.put, List.setIfInBounds_toArray, List.set_cons_zero, List.set_cons_succ])
  refine wpAnyH_take (i := 6) (oi := { dst := (some 11), op := (Op.load 3 (Operand.tmp 10)), type := 3, pos := "addr.go:151", after := #[{ on := 5, ground := Ground.data }], guard := none }) (v := .int .i64 p.n) rfl (by kernel_rfl) (by kernel_rfl) (by kernel_rfl) (fun _ _ _ h => h) (Or.inl ⟨by rfl, fun W hW => ?_⟩) (by assumption) ?_
  · obtain ⟨q1, q2, q3⟩ := BoxP.run hW.2.1.1 hp.out.1
    go_simp
  (try simp only [Act.put, List.setIfInBounds_toArray, List.set_cons_zero, List.set_cons_succ])
  refine wpAnyH_take (i := 7) (oi := { dst := (some 12), op := (Op.fieldAddr 55 (Operand.tmp 3) 1), type := 0, pos := "addr.go:151", after := #[], guard := none }) (v := ?_) rfl (by kernel_rfl) (by kernel_rfl) (by kernel_rfl) (fun _ _ _ h => h) (Or.inl ⟨by rfl, ?_⟩) (by assumption) ?_
  rotate_left
  · intro w hSw
    (try dsimp only at hSw)
    go_simp
    with_reducible rfl
  (try simp only [Act.put, List.setIfInBounds_toArray, List.set_cons_zero, List.set_cons_succ])
  refine wpAnyH_take (i := 8) (oi := { dst := (some 13), op := (Op.load 3 (Operand.tmp 12)), type := 3, pos := "addr.go:151", after := #[{ on := 7, ground := Ground.data }], guard := none }) (v := .int .i64 q.n) rfl (by kernel_rfl) (by kernel_rfl) (by kernel_rfl) (fun _ _ _ h => h) (Or.inl ⟨by rfl, fun W hW => ?_⟩) (by assumption) ?_
  · obtain ⟨q1, q2, q3⟩ := BoxP.run hW.2.1.2.1 hq.out.1
    go_simp
  (try simp only [Act.put, List.setIfInBounds_toArray, List.set_cons_zero, List.set_cons_succ])
  refine wpAnyH_ready (rs := [4]) (by kernel_rfl) (by simp) ?_
  refine AllReadyH.cons (o := { dst := (some 9), op := (Op.call { callee := (Callee.value (Operand.func 43)), args := #[(Operand.tmp 6), (Operand.tmp 8)], argTypes := #[42, 42] }), type := 3, pos := "addr.go:151", after := #[{ on := 1, ground := Ground.data }, { on := 3, ground := Ground.data }], guard := none }) rfl (fun K hK => ?_) AllReadyH.nil
  go_simp
  refine (cmp_any hp.out.1 hq.out.1).mono ?_
  rintro e w2 ⟨rfl, bel⟩
  refine hK.out _ _ ?_ (fun hHeld => ?_)
  · exact hHeld.go bel
  clear hK K
  (try simp only [Act.put, List.setIfInBounds_toArray, List.set_cons_zero, List.set_cons_succ])
  refine wpAnyH_ready (rs := [9]) (by kernel_rfl) (by simp) ?_
  refine AllReadyH.cons (o := { dst := (some 14), op := (Op.call { callee := (Callee.value (Operand.func 110)), args := #[(Operand.tmp 11), (Operand.tmp 13)], argTypes := #[3, 3] }), type := 3, pos := "addr.go:151", after := #[{ on := 6, ground := Ground.data }, { on := 8, ground := Ground.data }, { on := 4, ground := Ground.chain }], guard := none }) rfl (fun K hK => ?_) AllReadyH.nil
  go_simp
  refine (cmpI p.n q.n).mono ?_
  rintro e w2 ⟨rfl, rfl⟩
  refine hK.out _ _ ?_ (fun hHeld => ?_)
  · exact hHeld
  clear hK K
  (try simp only [Act.put, List.setIfInBounds_toArray, List.set_cons_zero, List.set_cons_succ])
  refine wpAnyH_ready (rs := [10]) (by kernel_rfl) (by simp) ?_
  refine AllReadyH.cons (o := { dst := (some 15), op := (Op.buildSlice 188 2 #[(0, (Operand.tmp 9)), (1, (Operand.tmp 14))]), type := 188, pos := "addr.go:151", after := #[{ on := 4, ground := Ground.data }, { on := 9, ground := Ground.data }], guard := none }) rfl (fun K hK => ?_) AllReadyH.nil
  go_simp
  refine hK.out _ _ ?_ (fun hHeld => ?_)
  · exact hHeld.go ((Below.refl _ _).alloc (Nat.le_refl _) _)
  clear hK K
  (try simp only [Act.put, List.setIfInBounds_toArray, List.set_cons_zero, List.set_cons_succ])
  refine wpAnyH_ready (rs := [11]) (by kernel_rfl) (by simp) ?_
  refine AllReadyH.cons (o := { dst := (some 16), op := (Op.call { callee := (Callee.value (Operand.func 109)), args := #[(Operand.tmp 15)], argTypes := #[188] }), type := 3, pos := "addr.go:151", after := #[{ on := 10, ground := Ground.data }, { on := 9, ground := Ground.chain }], guard := none }) rfl (fun K hK => ?_) AllReadyH.nil
  go_simp
  refine (or_any (box1 _ _)).mono ?_
  rintro e w3 ⟨rfl, rfl⟩
  refine hK.out _ _ ?_ (fun hHeld => ?_)
  · exact hHeld
  clear hK K
  (try simp only [Act.put, List.setIfInBounds_toArray, List.set_cons_zero, List.set_cons_succ])
  refine wpAnyH_take (i := 12) (oi := { dst := (some 4), op := (Op.assign (Operand.tmp 16)), type := 3, pos := "addr.go:151", after := #[{ on := 11, ground := Ground.data }, { on := 11, ground := Ground.chain }, { on := 0, ground := Ground.phase }, { on := 1, ground := Ground.phase }, { on := 2, ground := Ground.phase }, { on := 3, ground := Ground.phase }, { on := 4, ground := Ground.phase }, { on := 5, ground := Ground.phase }, { on := 6, ground := Ground.phase }, { on := 7, ground := Ground.phase }, { on := 8, ground := Ground.phase }, { on := 9, ground := Ground.phase }, { on := 10, ground := Ground.phase }, { on := 11, ground := Ground.phase }], guard := none }) (v := ?_) rfl (by kernel_rfl) (by kernel_rfl) (by kernel_rfl) (fun _ _ _ h => h) (Or.inl ⟨by rfl, ?_⟩) (by assumption) ?_
  rotate_left
  · intro w hSw
    (try dsimp only at hSw)
    go_simp
    with_reducible rfl
  (try simp only [Act.put, List.setIfInBounds_toArray, List.set_cons_zero, List.set_cons_succ])
  refine wpAnyH_done (by kernel_rfl) ?_ _
  go_wp2_with fail
  go_ret
  exact ⟨rfl, hHeld.1⟩
set_option maxRecDepth 100000 in
set_option maxHeartbeats 1600000 in
/-- ComparePair. -/
theorem cmpPP_any {w : World} {p q : Pr} (hp : p.fit) (hq : q.fit) : Calls Tryz.prog 41 #[vPP p, vPP q] w fun e w' => e = .returned (.int .i64 (cmpPP p q)) ∧ Below w.heap.size w w' := by
  have hb := Bx.start2 w (oPP p) (oPP q)
  replace hp := Lib.hid hp
  replace hq := Lib.hid hq
  unfold vPP
  go_enter Tryz.func41, Tryz.ntmps41
  go_wp2_with fail
  refine wp_region_held_drew (S := (Bx w w.heap.size [(w.heap.size, oPP p), (w.heap.size + 1, oPP q)])) (by kernel_rfl) (Bx.drew hb) (fun hHeld => ?_)
  refine wpAnyH_take (i := 0) (oi := { dst := (some 5), op := (Op.fieldAddr 57 (Operand.tmp 2) 0), type := 0, pos := "addr.go:156", after := #[], guard := none }) (v := ?_) rfl (by kernel_rfl) (by kernel_rfl) (by kernel_rfl) (fun _ _ _ h => h) (Or.inl ⟨by rfl, ?_⟩) (by assumption) ?_
  rotate_left
  · intro w hSw
    (try dsimp only at hSw)
    go_simp
    with_reducible rfl
  (try simp only [Act.put, List.setIfInBounds_toArray, List.set_cons_zero, List.set_cons_succ])
  refine wpAnyH_take (i := 1) (oi := { dst := (some 6), op := (Op.load 55 (Operand.tmp 5)), type := 55, pos := "addr.go:156", after := #[{ on := 0, ground := Ground.data }], guard := none }) (v := vPf p.d) rfl (by kernel_rfl) (by kernel_rfl) (by kernel_rfl) (fun _ _ _ h => h) (Or.inl ⟨by rfl, fun W hW => ?_⟩) (by assumption) ?_
  · obtain ⟨q1, q2, q3⟩ := BoxPP.run hW.2.1.1 hp.out
    exact exec_load 55 _ rfl rfl q1
  (try simp only [Act.put, List.setIfInBounds_toArray, List.set_cons_zero, List.set_cons_succ])
  refine wpAnyH_take (i := 2) (oi := { dst := (some 7), op := (Op.fieldAddr 57 (Operand.tmp 3) 0), type := 0, pos := "addr.go:156", after := #[], guard := none }) (v := ?_) rfl (by kernel_rfl) (by kernel_rfl) (by kernel_rfl) (fun _ _ _ h => h) (Or.inl ⟨by rfl, ?_⟩) (by assumption) ?_
  rotate_left
  · intro w hSw
    (try dsimp only at hSw)
    go_simp
    with_reducible rfl
  (try simp only [Act.put, List.setIfInBounds_toArray, List.set_cons_zero, List.set_cons_succ])
  refine wpAnyH_take (i := 3) (oi := { dst := (some 8), op := (Op.load 55 (Operand.tmp 7)), type := 55, pos := "addr.go:156", after := #[{ on := 2, ground := Ground.data }], guard := none }) (v := vPf q.d) rfl (by kernel_rfl) (by kernel_rfl) (by kernel_rfl) (fun _ _ _ h => h) (Or.inl ⟨by rfl, fun W hW => ?_⟩) (by assumption) ?_
  · obtain ⟨q1, q2, q3⟩ := BoxPP.run hW.2.1.2.1 hq.out
    exact exec_load 55 _ rfl rfl q1
  (try simp only [Act.put, List.setIfInBounds_toArray, List.set_cons_zero, List.set_cons_succ])
  refine wpAnyH_take (i := 5) (oi := { dst := (some 10), op := (Op.fieldAddr 57 (Operand.tmp 2) 1), type := 0, pos := "addr.go:156", after := #[], guard := none }) (v := ?_) rfl (by kernel_rfl) (by kernel_rfl) (by kernel_rfl) (fun _ _ _ h => h) (Or.inl ⟨by rfl, ?_⟩) (by assumption) ?_
  rotate_left
  · intro w hSw
    (try dsimp only at hSw)
    go_simp
    with_reducible rfl
  (try simp only [Act.put, List.setIfInBounds_toArray, List.set_cons_zero, List.set_cons_succ])
  refine wpAnyH_take (i := 6) (oi := { dst := (some 11), op := (Op.load 55 (Operand.tmp 10)), type := 55, pos := "addr.go:156", after := #[{ on := 5, ground := Ground.data }], guard := none }) (v := vPf p.s) rfl (by kernel_rfl) (by kernel_rfl) (by kernel_rfl) (fun _ _ _ h => h) (Or.inl ⟨by rfl, fun W hW => ?_⟩) (by assumption) ?_
  · obtain ⟨q1, q2, q3⟩ := BoxPP.run hW.2.1.1 hp.out
    exact exec_load 55 _ rfl rfl q2
  (try simp only [Act.put, List.setIfInBounds_toArray, List.set_cons_zero, List.set_cons_succ])
  refine wpAnyH_take (i := 7) (oi := { dst := (some 12), op := (Op.fieldAddr 57 (Operand.tmp 3) 1), type := 0, pos := "addr.go:156", after := #[], guard := none }) (v := ?_) rfl (by kernel_rfl) (by kernel_rfl) (by kernel_rfl) (fun _ _ _ h => h) (Or.inl ⟨by rfl, ?_⟩) (by assumption) ?_
  rotate_left
  · intro w hSw
    (try dsimp only at hSw)
    go_simp
    with_reducible rfl
  (try simp only [Act.put, List.setIfInBounds_toArray, List.set_cons_zero, List.set_cons_succ])
  refine wpAnyH_take (i := 8) (oi := { dst := (some 13), op := (Op.load 55 (Operand.tmp 12)), type := 55, pos := "addr.go:156", after := #[{ on := 7, ground := Ground.data }], guard := none }) (v := vPf q.s) rfl (by kernel_rfl) (by kernel_rfl) (by kernel_rfl) (fun _ _ _ h => h) (Or.inl ⟨by rfl, fun W hW => ?_⟩) (by assumption) ?_
  · obtain ⟨q1, q2, q3⟩ := BoxPP.run hW.2.1.2.1 hq.out
    exact exec_load 55 _ rfl rfl q2
  (try simp only [Act.put, List.setIfInBounds_toArray, List.set_cons_zero, List.set_cons_succ])
  refine wpAnyH_ready (rs := [4]) (by kernel_rfl) (by simp) ?_
  refine AllReadyH.cons (o := { dst := (some 9), op := (Op.call { callee := (Callee.value (Operand.func 42)), args := #[(Operand.tmp 6), (Operand.tmp 8)], argTypes := #[55, 55] }), type := 3, pos := "addr.go:156", after := #[{ on := 1, ground := Ground.data }, { on := 3, ground := Ground.data }], guard := none }) rfl (fun K hK => ?_) AllReadyH.nil
  go_simp
  refine (cmpP_any hp.out.1 hq.out.1).mono ?_
  rintro e w2 ⟨rfl, bel⟩
  refine hK.out _ _ ?_ (fun hHeld => ?_)
  · exact hHeld.go bel
  clear hK K
  (try simp only [Act.put, List.setIfInBounds_toArray, List.set_cons_zero, List.set_cons_succ])
  refine wpAnyH_ready (rs := [9]) (by kernel_rfl) (by simp) ?_
  refine AllReadyH.cons (o := { dst := (some 14), op := (Op.call { callee := (Callee.value (Operand.func 42)), args := #[(Operand.tmp 11), (Operand.tmp 13)], argTypes := #[55, 55] }), type := 3, pos := "addr.go:156", after := #[{ on := 6, ground := Ground.data }, { on := 8, ground := Ground.data }, { on := 4, ground := Ground.chain }], guard := none }) rfl (fun K hK => ?_) AllReadyH.nil
  go_simp
  refine (cmpP_any hp.out.2 hq.out.2).mono ?_
  rintro e w3 ⟨rfl, bel⟩
  refine hK.out _ _ ?_ (fun hHeld => ?_)
  · exact hHeld.go bel
  clear hK K
  (try simp only [Act.put, List.setIfInBounds_toArray, List.set_cons_zero, List.set_cons_succ])
  refine wpAnyH_ready (rs := [10]) (by kernel_rfl) (by simp) ?_
  refine AllReadyH.cons (o := { dst := (some 15), op := (Op.buildSlice 188 2 #[(0, (Operand.tmp 9)), (1, (Operand.tmp 14))]), type := 188, pos := "addr.go:156", after := #[{ on := 4, ground := Ground.data }, { on := 9, ground := Ground.data }], guard := none }) rfl (fun K hK => ?_) AllReadyH.nil
  go_simp
  refine hK.out _ _ ?_ (fun hHeld => ?_)
  · exact hHeld.go ((Below.refl _ _).alloc (Nat.le_refl _) _)
  clear hK K
  (try simp only [Act.put, List.setIfInBounds_toArray, List.set_cons_zero, List.set_cons_succ])
  refine wpAnyH_ready (rs := [11]) (by kernel_rfl) (by simp) ?_
  refine AllReadyH.cons (o := { dst := (some 16), op := (Op.call { callee := (Callee.value (Operand.func 109)), args := #[(Operand.tmp 15)], argTypes := #[188] }), type := 3, pos := "addr.go:156", after := #[{ on := 10, ground := Ground.data }, { on := 9, ground := Ground.chain }], guard := none }) rfl (fun K hK => ?_) AllReadyH.nil
  go_simp
  refine (or_any (box1 _ _)).mono ?_
  rintro e w4 ⟨rfl, rfl⟩
  refine hK.out _ _ ?_ (fun hHeld => ?_)
  · exact hHeld
  clear hK K
  (try simp only [Act.put, List.setIfInBounds_toArray, List.set_cons_zero, List.set_cons_succ])
  refine wpAnyH_take (i := 12) (oi := { dst := (some 4), op := (Op.assign (Operand.tmp 16)), type := 3, pos := "addr.go:156", after := #[{ on := 11, ground := Ground.data }, { on := 11, ground := Ground.chain }, { on := 0, ground := Ground.phase }, { on := 1, ground := Ground.phase }, { on := 2, ground := Ground.phase }, { on := 3, ground := Ground.phase }, { on := 4, ground := Ground.phase }, { on := 5, ground := Ground.phase }, { on := 6, ground := Ground.phase }, { on := 7, ground := Ground.phase }, { on := 8, ground := Ground.phase }, { on := 9, ground := Ground.phase }, { on := 10, ground := Ground.phase }, { on := 11, ground := Ground.phase }], guard := none }) (v := ?_) rfl (by kernel_rfl) (by kernel_rfl) (by kernel_rfl) (fun _ _ _ h => h) (Or.inl ⟨by rfl, ?_⟩) (by assumption) ?_
  rotate_left
  · intro w hSw
    (try dsimp only at hSw)
    go_simp
    with_reducible rfl
  (try simp only [Act.put, List.setIfInBounds_toArray, List.set_cons_zero, List.set_cons_succ])
  refine wpAnyH_done (by kernel_rfl) ?_ _
  go_wp2_with fail
  go_ret
  exact ⟨rfl, hHeld.1⟩
end Go.Proofs.YtnljjlaececnkaaGreatDoor
