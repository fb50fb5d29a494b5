/-
  Merged texts (DB, DC, EN, JF, JG), part 6 of 6. Conditions: each part's own, told at its head.
-/
import Derived.Test.YtnljjlaececnkaaGreatDoorBBase1
import Derived.Test.YtnljjlaececnkaaGreatDoorBBase2
import Derived.Test.YtnljjlaececnkaaGreatDoorBBase3
import Derived.Test.YtnljjlaececnkaaGreatDoorBBase4
import Derived.Test.YtnljjlaececnkaaGreatDoorBBase5
import Derived.Test.YtnljjlaececnkaaGreatDoorRows
import Derived.Lib.LaidTab
import Derived.Stop.LaidErr
import Derived.Shelf.Vars
import Derived.MakeChecks
import Derived.JoinedOf
import Derived.KernelRfl
import Derived.SevenTiedAt
/-
  ParsePair of any text. Condition: the variables hold what their initialisers laid; a text is no longer than memory has room for.
-/
namespace Go.Proofs.YtnljjlaececnkaaGreatDoor
open Go.RowKit
set_option linter.unusedVariables false
set_option linter.unusedSimpArgs false
theorem Bz.more {w W W2 : World} {l : List (Nat × Obj)} (h : Bz w l W) (hb : Below W.heap.size W W2) {g : Nat} {o : Obj} (hg : W.heap.size ≤ g) (ho : W2.heap[g]? = some o) : Bz w ((g, o) :: l) W2 :=
  ⟨(h.go hb).bel, ⟨ho, (h.go hb).all⟩, List.pairwise_cons.2 ⟨fun x hx => Nat.lt_of_lt_of_le (AllB.lt h.all x hx) hg, h.ord⟩, fun x hx => by
    rcases List.mem_cons.1 hx with rfl | hx
    · exact Nat.le_trans h.bel.size hg
    · exact h.low x hx⟩
theorem split_op {w : World} (E : Env w) {s sep : ByteArray} {l : List ByteArray} {n : Nat} (hs : s.size < 4294967281) (h1 : 1 ≤ sep.size) (hl : pieces s sep = l) (hn : l.length = n) :
    Calls Tryz.prog 99 #[.string s, .string sep] w fun e w' => (∃ g, e = .returned (.slice (some ⟨g, 0, none⟩) n n) ∧ w.heap.size ≤ g ∧ w'.heap[g]? = some (.cells (strs l).toArray 9)) ∧ Below w.heap.size w w' :=
  (split_n E hs h1 hl hn).mono fun e w' h => ⟨⟨w.heap.size, h.1, Nat.le_refl _, by rw [h.2]; exact box1 w _⟩, by rw [h.2]; exact (Below.refl _ _).alloc (Nat.le_refl _) _⟩
theorem ldStr {W : World} {g : Nat} {l : List ByteArray} (h : W.heap[g]? = some (.cells (strs l).toArray 9)) (j : Nat) {x : ByteArray} (hx : l[j]? = some x) : (loadVar 9 ⟨g, j, none⟩).run Tryz.prog W = .ok (.string x) W :=
  loadVar_str Tryz.underlying9 ((row_cell h).trans (by rw [List.getElem?_toArray]; unfold strs; rw [List.getElem?_map, hx]; rfl))
theorem setCells_row : ∀ (vs : List Value) (o : Nat) (w : World) (b : Nat) (row : List Value) (t : TypeId), w.heap[b]? = some (.cells row.toArray t) → o + vs.length ≤ row.length → w.setCells b o vs = w.setRow b (row.take o ++ vs ++ row.drop (o + vs.length)).toArray
  | [], o, w, b, row, t, h, hl => by
    simp only [World.setCells, List.append_nil, List.length_nil, Nat.add_zero, List.take_append_drop]
    have this : (w.setRow b row.toArray).heap = w.heap := by
      unfold World.setRow
      apply Array.ext_getElem?
      intro i
      simp only
      rw [Array.getElem?_modify]
      split
      · rename_i e; subst e; rw [h]; rfl
      · rfl
    have e2 : w.setRow b row.toArray = { w with heap := (w.setRow b row.toArray).heap } := rfl
    rw [e2, this]
  | v :: r, o, w, b, row, t, h, hl => by
    have hw1 : (w.setCell ⟨b, o, none⟩ v).heap[b]? = some (.cells (row.set o v).toArray t) := by
      unfold World.setCell
      simp only
      rw [Array.getElem?_modify, if_pos rfl, h]
      simp
    rw [World.setCells, setCells_row r (o + 1) _ b (row.set o v) t hw1 (by rw [List.length_set]; simp at hl; omega)]
    have e : (row.set o v).take (o + 1) ++ r ++ (row.set o v).drop (o + 1 + r.length) = row.take o ++ v :: r ++ row.drop (o + (v :: r).length) := by
      simp at hl
      rw [List.take_succ_eq_append_getElem (by rw [List.length_set]; omega), List.take_set_of_le (by omega), List.getElem_set_self, List.drop_set_of_lt (by omega), List.length_cons, show o + 1 + r.length = o + (r.length + 1) by omega]
      simp
    rw [e]
    unfold World.setRow World.setCell
    simp only
    congr 1
    apply Array.ext_getElem?
    intro i
    rw [Array.getElem?_modify, Array.getElem?_modify, Array.getElem?_modify]
    split
    · rename_i e; subst e; rw [h]; rfl
    · rfl
/-- What ParsePair answers. -/
def PairR (q : Pr) (n : Int) (e : Ending) : Prop := e = .returned (.tuple #[vPP q, .int .i64 n])
def fromB : ByteArray := ⟨#[102, 114, 111, 109]⟩
set_option maxRecDepth 100000 in
set_option maxHeartbeats 3200000 in
theorem pair_err1 {w : World} (E : Env w) {s : ByteArray} (hs : s.size < 4294967281) {x : ByteArray} (hx : x.size < 4294967281) (hsp : pieces s ⟨#[32]⟩ = [x]) {p : Pf} {e : Int} (hp : p.ok) (hpp : parsePS x = (p, e)) (he : e ≠ 0) : Calls Tryz.prog 58 #[.string s] w fun e' w' => PairR zeroPr e e' ∧ Below w.heap.size w w' := by
  have Hp := Lib.hid hp
  have hq := Lib.hid (any_ok (pfam p))
  have c1 : ∀ {W : World}, Env W → Calls Tryz.prog 56 #[.string x] W fun e' w' => e' = .returned (.tuple #[vPf p, .int .i64 e]) ∧ Below W.heap.size W w' := fun EW => pp_is EW hx hpp
  have B0 := ((Bz.start w).alloc (oPP zeroPr) rfl : Bz w [(w.heap.size, oPP zeroPr)] _)
  have E0 := B0.env E
  clear hpp
  have h1 : (e == 0) = false := by simpa using he
  have h2 : (e != 0) = true := by simpa using he
  replace he := Lib.hid he
  go_enter Tryz.func58, Tryz.ntmps58
  go_upto_region 4 with (go_at_call 99; refine (split_op (n := 1) E0 hs (by decide) hsp rfl).mono ?_; rintro e' w1 ⟨⟨g, rfl, hg, hrow⟩, bel⟩; have B1 := B0.more bel hg hrow)
  clear hp B0 E0
  go_wp2_with (refine wpList_quiet_take (C := Bz w [(g, .cells (strs [x]).toArray 9), (w.heap.size, oPP zeroPr)]) 9 6 (by rfl) B1 ?_)
  (try simp only [List.take_succ_cons, List.take_zero, List.drop_succ_cons, List.drop_zero])
  refine wpQuiet_hide ?_
  intro lq hlq
  refine wpQuiet_step_h hlq ?_
  clear hlq lq
  intro K lq hlq hK
  refine wanted_go (by rfl) ?_
  refine ⟨?_, fun W hW => ?_, ?_⟩
  rotate_left
  · skip
    go_simp
    with_reducible rfl
  refine hK _ ?_
  clear hK K
  (try simp only [Act.put, List.setIfInBounds_toArray, List.set_cons_zero, List.set_cons_succ])
  refine wpQuiet_step_h hlq ?_
  clear hlq lq
  intro K lq hlq hK
  refine wanted_go (by rfl) ?_
  refine ⟨.string x, fun W hW => ?_, ?_⟩
  · skip
    exact quiet_load 9 _ rfl rfl (ldStr (hW.all.get 0 (x := (g, .cells (strs [x]).toArray 9)) rfl) 0 rfl)
  refine hK _ ?_
  clear hK K
  (try simp only [Act.put, List.setIfInBounds_toArray, List.set_cons_zero, List.set_cons_succ])
  refine wpQuiet_step_h hlq ?_
  clear hlq lq
  intro K lq hlq hK
  refine wanted_go (by rfl) ?_
  refine ⟨.tuple #[vPf p, .int .i64 e], fun W hW => ?_, ?_⟩
  · go_simp
    have E' := hW.env E
    exact (c1 E').mono fun e W2 hc2 => ⟨hc2.1, hW.go hc2.2⟩
  refine hK _ ?_
  clear hK K
  (try simp only [Act.put, List.setIfInBounds_toArray, List.set_cons_zero, List.set_cons_succ])
  refine wpQuiet_step_h hlq ?_
  clear hlq lq
  intro K lq hlq hK
  refine wanted_go (by rfl) ?_
  refine ⟨?_, fun W hW => ?_, ?_⟩
  rotate_left
  · skip
    go_simp
    with_reducible rfl
  refine hK _ ?_
  clear hK K
  (try simp only [Act.put, List.setIfInBounds_toArray, List.set_cons_zero, List.set_cons_succ])
  refine wpQuiet_step_h hlq ?_
  clear hlq lq
  intro K lq hlq hK
  refine wanted_go (by rfl) ?_
  refine ⟨?_, fun W hW => ?_, ?_⟩
  rotate_left
  · skip
    go_simp
    with_reducible rfl
  refine hK _ ?_
  clear hK K
  (try simp only [Act.put, List.setIfInBounds_toArray, List.set_cons_zero, List.set_cons_succ])
  refine wpQuiet_step_h hlq ?_
  clear hlq lq
  intro K lq hlq hK
  refine wanted_go (by rfl) ?_
  refine ⟨?_, fun W hW => ?_, ?_⟩
  rotate_left
  · skip
    go_simp
    with_reducible rfl
  refine hK _ ?_
  clear hK K
  (try simp only [Act.put, List.setIfInBounds_toArray, List.set_cons_zero, List.set_cons_succ])
  refine wpQuiet_nil_h hlq ?_
  clear hlq lq B1
  intro V1 hV2
  refine wpList_new rfl rfl rfl rfl z55 rfl (by rfl) (by rfl) (info55 Hp.out.1 _) (sizeP' Hp.out) (pCs_one _ _) ?_
  (try simp only [Act.put, List.setIfInBounds_toArray, List.set_cons_zero, List.set_cons_succ])
  have hB3 : Bz w [(V1.heap.size, oP p), (g, .cells (strs [x]).toArray 9), (w.heap.size, oPP zeroPr)] (V1.alloc (oP p)) := hV2.alloc (oP p) rfl
  clear hV2
  refine wpList_quiet (C := Bz w [(V1.heap.size, oP p), (g, .cells (strs [x]).toArray 9), (w.heap.size, oPP zeroPr)]) 1 (by rfl) hB3 ?_
  refine wpQuiet_hide ?_
  intro lq hlq
  refine wpQuiet_step_h hlq ?_
  clear hlq lq
  intro K lq hlq hK
  refine wanted_go (by rfl) ?_
  refine ⟨?_, fun W hW => ?_, ?_⟩
  rotate_left
  · skip
    go_simp
    with_reducible rfl
  refine hK _ ?_
  clear hK K
  (try simp only [Act.put, List.setIfInBounds_toArray, List.set_cons_zero, List.set_cons_succ])
  refine wpQuiet_nil_h hlq ?_
  clear hlq lq hB3
  intro V4 hV5
  go_upto_region 5 with (fail)
  go_cut [7] from 32 to 36 (fun x7 W => ∃ g7, x7 = .pointer (some ⟨g7, 0, none⟩) ∧ Bz w [(g7, oPP ⟨p, anyP (pfam p)⟩), (V1.heap.size, oP p), (g, .cells (strs [x]).toArray 9), (w.heap.size, oPP zeroPr)] W)
  case first =>
    refine wp_region_held_drew (S := Bz w [(V1.heap.size, oP p), (g, .cells (strs [x]).toArray 9), (w.heap.size, oPP zeroPr)]) (by kernel_rfl) (hV5.drew) (fun hHeld => ?_)
    refine wpAnyH_take (i := 0) (oi := { dst := (some 32), op := (Op.load 55 (Operand.tmp 5)), type := 55, pos := "addr.go:281", after := #[], guard := none }) (v := vPf p) rfl (by kernel_rfl) (by kernel_rfl) (by kernel_rfl) (fun _ _ _ h => h) (Or.inl ⟨by rfl, fun W hW => ?_⟩) (by assumption) ?_
    · obtain ⟨q1, q2, q3⟩ := BoxP.run hW.all.1 Hp.out.1
      exact exec_load 55 _ rfl rfl q3
    (try simp only [Act.put, List.setIfInBounds_toArray, List.set_cons_zero, List.set_cons_succ])
    refine wpAnyH_take (i := 1) (oi := { dst := (some 33), op := (Op.load 55 (Operand.tmp 5)), type := 55, pos := "addr.go:281", after := #[], guard := none }) (v := vPf p) rfl (by kernel_rfl) (by kernel_rfl) (by kernel_rfl) (fun _ _ _ h => h) (Or.inl ⟨by rfl, fun W hW => ?_⟩) (by assumption) ?_
    · obtain ⟨q1, q2, q3⟩ := BoxP.run hW.all.1 Hp.out.1
      exact exec_load 55 _ rfl rfl q3
    (try simp only [Act.put, List.setIfInBounds_toArray, List.set_cons_zero, List.set_cons_succ])
    refine wpAnyH_ready (rs := [2, 5]) (by kernel_rfl) (by simp) ?_
    refine AllReadyH.cons (o := { dst := (some 34), op := (Op.call { callee := (Callee.value (Operand.func 54)), args := #[(Operand.tmp 33)], argTypes := #[55] }), type := 3, pos := "addr.go:281", after := #[{ on := 1, ground := Ground.data }], guard := none }) rfl (fun K hK => ?_) (AllReadyH.cons (o := { dst := (some 7), op := (Op.alloc 57), type := 0, pos := "addr.go:281", after := #[], guard := none }) rfl (fun K hK => ?_) AllReadyH.nil)
    · go_simp
      refine (pfam_any Hp.out).mono ?_
      rintro e wA ⟨rfl, bel⟩
      refine hK.out _ _ ?_ (fun hHeld => ?_)
      · exact hHeld.go bel
      clear hK K
      (try simp only [Act.put, List.setIfInBounds_toArray, List.set_cons_zero, List.set_cons_succ])
      refine wpAnyH_ready (rs := [3, 5]) (by kernel_rfl) (by simp) ?_
      refine AllReadyH.cons (o := { dst := (some 35), op := (Op.call { callee := (Callee.value (Operand.func 55)), args := #[(Operand.tmp 34)], argTypes := #[3] }), type := 55, pos := "addr.go:281", after := #[{ on := 2, ground := Ground.data }, { on := 2, ground := Ground.chain }], guard := none }) rfl (fun K hK => ?_) (AllReadyH.cons (o := { dst := (some 7), op := (Op.alloc 57), type := 0, pos := "addr.go:281", after := #[], guard := none }) rfl (fun K hK => ?_) AllReadyH.nil)
      · go_simp
        refine (any_any (pfam p)).mono ?_
        rintro e wB ⟨rfl, bel⟩
        refine hK.out _ _ ?_ (fun hHeld => ?_)
        · exact hHeld.go bel
        clear hK K
        (try simp only [Act.put, List.setIfInBounds_toArray, List.set_cons_zero, List.set_cons_succ])
        refine wpAnyH_take (i := 4) (oi := { dst := (some 36), op := (Op.build 57 #[(0, (Operand.tmp 32)), (1, (Operand.tmp 35))]), type := 57, pos := "addr.go:281", after := #[{ on := 0, ground := Ground.data }, { on := 3, ground := Ground.data }], guard := none }) (v := .agg (pCs p.a p.n ++ pCs (anyP (pfam p)).a (anyP (pfam p)).n).toArray) rfl (by kernel_rfl) (by kernel_rfl) (by kernel_rfl) (fun _ _ _ h => h) (Or.inl ⟨by rfl, fun W hW => ?_⟩) (by assumption) ?_
        · exact exec_build2 (x := .tmp 32) (y := .tmp 35) rfl rfl rfl (built57 Hp.out.1 hq.out.1)
        (try simp only [Act.put, List.setIfInBounds_toArray, List.set_cons_zero, List.set_cons_succ])
        refine wpAnyH_ready (rs := [5]) (by kernel_rfl) (by simp) ?_
        refine AllReadyH.cons (o := { dst := (some 7), op := (Op.alloc 57), type := 0, pos := "addr.go:281", after := #[], guard := none }) rfl (fun K hK => ?_) AllReadyH.nil
        have hZ := hHeld.alloc (oPP zeroPr) rfl
        go_simp
        refine hK.out _ _ ?_ (fun hHeld => ?_)
        · exact hHeld.go ((Below.refl _ _).alloc (Nat.le_refl _) _)
        clear hK K
        (try simp only [Act.put, List.setIfInBounds_toArray, List.set_cons_zero, List.set_cons_succ])
        refine wpAnyH_ready (rs := [6]) (by kernel_rfl) (by simp) ?_
        refine AllReadyH.cons (o := { dst := none, op := (Op.store 57 (Operand.tmp 7) (Operand.tmp 36)), type := 0, pos := "addr.go:281", after := #[{ on := 5, ground := Ground.data }, { on := 4, ground := Ground.data }, { on := 3, ground := Ground.chain }, { on := 0, ground := Ground.phase }, { on := 1, ground := Ground.phase }, { on := 2, ground := Ground.phase }, { on := 3, ground := Ground.phase }, { on := 4, ground := Ground.phase }, { on := 5, ground := Ground.phase }], guard := none }) rfl (fun K hK => ?_) AllReadyH.nil
        have hF := hZ.set 0 rfl (pCs p.a p.n ++ pCs (anyP (pfam p)).a (anyP (pfam p)).n).toArray
        refine wanted_go (by rfl) ?_
        refine wp_store_row 57 (.tmp 7) (.tmp 36) rfl _ _ rfl rfl 57 _ hZ.all.1 (info57 (p := ⟨p, anyP (pfam p)⟩) ⟨Hp.out, hq.out⟩) ((pp_size zeroPr_fit).trans (pp_size (p := ⟨p, anyP (pfam p)⟩) ⟨Hp.out, hq.out⟩).symm) (pp_one ⟨p, anyP (pfam p)⟩) ?_
        refine hK.out _ _ ?_ (fun hHeld => ?_)
        · exact hF.tail
        clear hK K
        (try simp only [Act.put, List.setIfInBounds_toArray, List.set_cons_zero, List.set_cons_succ])
        refine wpAnyH_done (by kernel_rfl) ?_ _
        go_wp2_with fail
        go_meet
        exact ⟨_, rfl, hF⟩
      · have hZ := hHeld.alloc (oPP zeroPr) rfl
        go_simp
        refine hK.out _ _ ?_ (fun hHeld => ?_)
        · exact hHeld.go ((Below.refl _ _).alloc (Nat.le_refl _) _)
        clear hK K
        (try simp only [Act.put, List.setIfInBounds_toArray, List.set_cons_zero, List.set_cons_succ])
        refine wpAnyH_ready (rs := [3]) (by kernel_rfl) (by simp) ?_
        refine AllReadyH.cons (o := { dst := (some 35), op := (Op.call { callee := (Callee.value (Operand.func 55)), args := #[(Operand.tmp 34)], argTypes := #[3] }), type := 55, pos := "addr.go:281", after := #[{ on := 2, ground := Ground.data }, { on := 2, ground := Ground.chain }], guard := none }) rfl (fun K hK => ?_) AllReadyH.nil
        go_simp
        refine (any_any (pfam p)).mono ?_
        rintro e wB ⟨rfl, bel⟩
        replace hZ := hZ.go bel
        refine hK.out _ _ ?_ (fun hHeld => ?_)
        · exact hHeld.go bel
        clear hK K
        (try simp only [Act.put, List.setIfInBounds_toArray, List.set_cons_zero, List.set_cons_succ])
        refine wpAnyH_take (i := 4) (oi := { dst := (some 36), op := (Op.build 57 #[(0, (Operand.tmp 32)), (1, (Operand.tmp 35))]), type := 57, pos := "addr.go:281", after := #[{ on := 0, ground := Ground.data }, { on := 3, ground := Ground.data }], guard := none }) (v := .agg (pCs p.a p.n ++ pCs (anyP (pfam p)).a (anyP (pfam p)).n).toArray) rfl (by kernel_rfl) (by kernel_rfl) (by kernel_rfl) (fun _ _ _ h => h) (Or.inl ⟨by rfl, fun W hW => ?_⟩) (by assumption) ?_
        · exact exec_build2 (x := .tmp 32) (y := .tmp 35) rfl rfl rfl (built57 Hp.out.1 hq.out.1)
        (try simp only [Act.put, List.setIfInBounds_toArray, List.set_cons_zero, List.set_cons_succ])
        refine wpAnyH_ready (rs := [6]) (by kernel_rfl) (by simp) ?_
        refine AllReadyH.cons (o := { dst := none, op := (Op.store 57 (Operand.tmp 7) (Operand.tmp 36)), type := 0, pos := "addr.go:281", after := #[{ on := 5, ground := Ground.data }, { on := 4, ground := Ground.data }, { on := 3, ground := Ground.chain }, { on := 0, ground := Ground.phase }, { on := 1, ground := Ground.phase }, { on := 2, ground := Ground.phase }, { on := 3, ground := Ground.phase }, { on := 4, ground := Ground.phase }, { on := 5, ground := Ground.phase }], guard := none }) rfl (fun K hK => ?_) AllReadyH.nil
        have hF := hZ.set 0 rfl (pCs p.a p.n ++ pCs (anyP (pfam p)).a (anyP (pfam p)).n).toArray
        refine wanted_go (by rfl) ?_
        refine wp_store_row 57 (.tmp 7) (.tmp 36) rfl _ _ rfl rfl 57 _ hZ.all.1 (info57 (p := ⟨p, anyP (pfam p)⟩) ⟨Hp.out, hq.out⟩) ((pp_size zeroPr_fit).trans (pp_size (p := ⟨p, anyP (pfam p)⟩) ⟨Hp.out, hq.out⟩).symm) (pp_one ⟨p, anyP (pfam p)⟩) ?_
        refine hK.out _ _ ?_ (fun hHeld => ?_)
        · exact hF.tail
        clear hK K
        (try simp only [Act.put, List.setIfInBounds_toArray, List.set_cons_zero, List.set_cons_succ])
        refine wpAnyH_done (by kernel_rfl) ?_ _
        go_wp2_with fail
        go_meet
        exact ⟨_, rfl, hF⟩
    · have hZ := hHeld.alloc (oPP zeroPr) rfl
      go_simp
      refine hK.out _ _ ?_ (fun hHeld => ?_)
      · exact hHeld.go ((Below.refl _ _).alloc (Nat.le_refl _) _)
      clear hK K
      (try simp only [Act.put, List.setIfInBounds_toArray, List.set_cons_zero, List.set_cons_succ])
      refine wpAnyH_ready (rs := [2]) (by kernel_rfl) (by simp) ?_
      refine AllReadyH.cons (o := { dst := (some 34), op := (Op.call { callee := (Callee.value (Operand.func 54)), args := #[(Operand.tmp 33)], argTypes := #[55] }), type := 3, pos := "addr.go:281", after := #[{ on := 1, ground := Ground.data }], guard := none }) rfl (fun K hK => ?_) AllReadyH.nil
      go_simp
      refine (pfam_any Hp.out).mono ?_
      rintro e wA ⟨rfl, bel⟩
      replace hZ := hZ.go bel
      refine hK.out _ _ ?_ (fun hHeld => ?_)
      · exact hHeld.go bel
      clear hK K
      (try simp only [Act.put, List.setIfInBounds_toArray, List.set_cons_zero, List.set_cons_succ])
      refine wpAnyH_ready (rs := [3]) (by kernel_rfl) (by simp) ?_
      refine AllReadyH.cons (o := { dst := (some 35), op := (Op.call { callee := (Callee.value (Operand.func 55)), args := #[(Operand.tmp 34)], argTypes := #[3] }), type := 55, pos := "addr.go:281", after := #[{ on := 2, ground := Ground.data }, { on := 2, ground := Ground.chain }], guard := none }) rfl (fun K hK => ?_) AllReadyH.nil
      go_simp
      refine (any_any (pfam p)).mono ?_
      rintro e wB ⟨rfl, bel⟩
      replace hZ := hZ.go bel
      refine hK.out _ _ ?_ (fun hHeld => ?_)
      · exact hHeld.go bel
      clear hK K
      (try simp only [Act.put, List.setIfInBounds_toArray, List.set_cons_zero, List.set_cons_succ])
      refine wpAnyH_take (i := 4) (oi := { dst := (some 36), op := (Op.build 57 #[(0, (Operand.tmp 32)), (1, (Operand.tmp 35))]), type := 57, pos := "addr.go:281", after := #[{ on := 0, ground := Ground.data }, { on := 3, ground := Ground.data }], guard := none }) (v := .agg (pCs p.a p.n ++ pCs (anyP (pfam p)).a (anyP (pfam p)).n).toArray) rfl (by kernel_rfl) (by kernel_rfl) (by kernel_rfl) (fun _ _ _ h => h) (Or.inl ⟨by rfl, fun W hW => ?_⟩) (by assumption) ?_
      · exact exec_build2 (x := .tmp 32) (y := .tmp 35) rfl rfl rfl (built57 Hp.out.1 hq.out.1)
      (try simp only [Act.put, List.setIfInBounds_toArray, List.set_cons_zero, List.set_cons_succ])
      refine wpAnyH_ready (rs := [6]) (by kernel_rfl) (by simp) ?_
      refine AllReadyH.cons (o := { dst := none, op := (Op.store 57 (Operand.tmp 7) (Operand.tmp 36)), type := 0, pos := "addr.go:281", after := #[{ on := 5, ground := Ground.data }, { on := 4, ground := Ground.data }, { on := 3, ground := Ground.chain }, { on := 0, ground := Ground.phase }, { on := 1, ground := Ground.phase }, { on := 2, ground := Ground.phase }, { on := 3, ground := Ground.phase }, { on := 4, ground := Ground.phase }, { on := 5, ground := Ground.phase }], guard := none }) rfl (fun K hK => ?_) AllReadyH.nil
      have hF := hZ.set 0 rfl (pCs p.a p.n ++ pCs (anyP (pfam p)).a (anyP (pfam p)).n).toArray
      refine wanted_go (by rfl) ?_
      refine wp_store_row 57 (.tmp 7) (.tmp 36) rfl _ _ rfl rfl 57 _ hZ.all.1 (info57 (p := ⟨p, anyP (pfam p)⟩) ⟨Hp.out, hq.out⟩) ((pp_size zeroPr_fit).trans (pp_size (p := ⟨p, anyP (pfam p)⟩) ⟨Hp.out, hq.out⟩).symm) (pp_one ⟨p, anyP (pfam p)⟩) ?_
      refine hK.out _ _ ?_ (fun hHeld => ?_)
      · exact hF.tail
      clear hK K
      (try simp only [Act.put, List.setIfInBounds_toArray, List.set_cons_zero, List.set_cons_succ])
      refine wpAnyH_done (by kernel_rfl) ?_ _
      go_wp2_with fail
      go_meet
      exact ⟨_, rfl, hF⟩
  case rest =>
    obtain ⟨g7, rfl, hC⟩ := hcut
    have hZ0 := hC.all.get 3 (x := (w.heap.size, oPP zeroPr)) rfl
    go_wp2_with (refine wpList_store_row rfl 57 (.tmp 2) (.tmp 58) rfl w.heap.size (pCs zeroA 0 ++ pCs zeroA 0).toArray rfl rfl 57 _ hZ0 (info57 zeroPr_fit) rfl (pp_one zeroPr) ?_)
    refine bodyPost_ret (v := .tuple #[vPP zeroPr, .int .i64 e]) ?_ rfl ⟨rfl, below_row hC.bel (Nat.le_refl _) _⟩
    exact results_cell_tmp rfl _ _ rfl (BoxPP.run (p := zeroPr) (setRow_heap _ _ _ _ _ _ hZ0) zeroPr_fit).2.2 rfl
set_option maxRecDepth 100000 in
set_option maxHeartbeats 3200000 in
theorem pair_err3 {w : World} (E : Env w) {s : ByteArray} (hs : s.size < 4294967281) {x z : ByteArray} (hx : x.size < 4294967281) (hz : z.size < 4294967281) (hsp : pieces s ⟨#[32]⟩ = [x, ⟨#[102, 114, 111, 109]⟩, z]) {p : Pf} {e : Int} (hp : p.ok) (hpp : parsePS x = (p, e)) (he : e ≠ 0) : Calls Tryz.prog 58 #[.string s] w fun e' w' => PairR zeroPr e e' ∧ Below w.heap.size w w' := by
  have Hp := Lib.hid hp
  have hq := Lib.hid (any_ok (pfam p))
  have c1 : ∀ {W : World}, Env W → Calls Tryz.prog 56 #[.string x] W fun e' w' => e' = .returned (.tuple #[vPf p, .int .i64 e]) ∧ Below W.heap.size W w' := fun EW => pp_is EW hx hpp
  have B0 := ((Bz.start w).alloc (oPP zeroPr) rfl : Bz w [(w.heap.size, oPP zeroPr)] _)
  have E0 := B0.env E
  clear hpp
  have h1 : (e == 0) = false := by simpa using he
  have h2 : (e != 0) = true := by simpa using he
  replace he := Lib.hid he
  go_enter Tryz.func58, Tryz.ntmps58
  go_upto_region 4 with (go_at_call 99; refine (split_op (n := 3) E0 hs (by decide) hsp rfl).mono ?_; rintro e' w1 ⟨⟨g, rfl, hg, hrow⟩, bel⟩; have B1 := B0.more bel hg hrow; have hc1 : w1.cell? ⟨g, 1, none⟩ = some (.string ⟨#[102, 114, 111, 109]⟩) := (row_cell hrow).trans rfl)
  clear hp B0 E0
  go_wp2_with (refine wpList_quiet_take (C := Bz w [(g, .cells (strs [x, ⟨#[102, 114, 111, 109]⟩, z]).toArray 9), (w.heap.size, oPP zeroPr)]) 9 6 (by rfl) B1 ?_)
  (try simp only [List.take_succ_cons, List.take_zero, List.drop_succ_cons, List.drop_zero])
  refine wpQuiet_hide ?_
  intro lq hlq
  refine wpQuiet_step_h hlq ?_
  clear hlq lq
  intro K lq hlq hK
  refine wanted_go (by rfl) ?_
  refine ⟨?_, fun W hW => ?_, ?_⟩
  rotate_left
  · skip
    go_simp
    with_reducible rfl
  refine hK _ ?_
  clear hK K
  (try simp only [Act.put, List.setIfInBounds_toArray, List.set_cons_zero, List.set_cons_succ])
  refine wpQuiet_step_h hlq ?_
  clear hlq lq
  intro K lq hlq hK
  refine wanted_go (by rfl) ?_
  refine ⟨.string x, fun W hW => ?_, ?_⟩
  · skip
    exact quiet_load 9 _ rfl rfl (ldStr (hW.all.get 0 (x := (g, .cells (strs [x, ⟨#[102, 114, 111, 109]⟩, z]).toArray 9)) rfl) 0 rfl)
  refine hK _ ?_
  clear hK K
  (try simp only [Act.put, List.setIfInBounds_toArray, List.set_cons_zero, List.set_cons_succ])
  refine wpQuiet_step_h hlq ?_
  clear hlq lq
  intro K lq hlq hK
  refine wanted_go (by rfl) ?_
  refine ⟨.tuple #[vPf p, .int .i64 e], fun W hW => ?_, ?_⟩
  · go_simp
    have E' := hW.env E
    exact (c1 E').mono fun e W2 hc2 => ⟨hc2.1, hW.go hc2.2⟩
  refine hK _ ?_
  clear hK K
  (try simp only [Act.put, List.setIfInBounds_toArray, List.set_cons_zero, List.set_cons_succ])
  refine wpQuiet_step_h hlq ?_
  clear hlq lq
  intro K lq hlq hK
  refine wanted_go (by rfl) ?_
  refine ⟨?_, fun W hW => ?_, ?_⟩
  rotate_left
  · skip
    go_simp
    with_reducible rfl
  refine hK _ ?_
  clear hK K
  (try simp only [Act.put, List.setIfInBounds_toArray, List.set_cons_zero, List.set_cons_succ])
  refine wpQuiet_step_h hlq ?_
  clear hlq lq
  intro K lq hlq hK
  refine wanted_go (by rfl) ?_
  refine ⟨?_, fun W hW => ?_, ?_⟩
  rotate_left
  · skip
    go_simp
    with_reducible rfl
  refine hK _ ?_
  clear hK K
  (try simp only [Act.put, List.setIfInBounds_toArray, List.set_cons_zero, List.set_cons_succ])
  refine wpQuiet_step_h hlq ?_
  clear hlq lq
  intro K lq hlq hK
  refine wanted_go (by rfl) ?_
  refine ⟨?_, fun W hW => ?_, ?_⟩
  rotate_left
  · skip
    go_simp
    with_reducible rfl
  refine hK _ ?_
  clear hK K
  (try simp only [Act.put, List.setIfInBounds_toArray, List.set_cons_zero, List.set_cons_succ])
  refine wpQuiet_nil_h hlq ?_
  clear hlq lq B1
  intro V1 hV2
  refine wpList_new rfl rfl rfl rfl z55 rfl (by rfl) (by rfl) (info55 Hp.out.1 _) (sizeP' Hp.out) (pCs_one _ _) ?_
  (try simp only [Act.put, List.setIfInBounds_toArray, List.set_cons_zero, List.set_cons_succ])
  have hB3 : Bz w [(V1.heap.size, oP p), (g, .cells (strs [x, ⟨#[102, 114, 111, 109]⟩, z]).toArray 9), (w.heap.size, oPP zeroPr)] (V1.alloc (oP p)) := hV2.alloc (oP p) rfl
  clear hV2
  refine wpList_quiet (C := Bz w [(V1.heap.size, oP p), (g, .cells (strs [x, ⟨#[102, 114, 111, 109]⟩, z]).toArray 9), (w.heap.size, oPP zeroPr)]) 1 (by rfl) hB3 ?_
  refine wpQuiet_hide ?_
  intro lq hlq
  refine wpQuiet_step_h hlq ?_
  clear hlq lq
  intro K lq hlq hK
  refine wanted_go (by rfl) ?_
  refine ⟨?_, fun W hW => ?_, ?_⟩
  rotate_left
  · skip
    go_simp
    with_reducible rfl
  refine hK _ ?_
  clear hK K
  (try simp only [Act.put, List.setIfInBounds_toArray, List.set_cons_zero, List.set_cons_succ])
  refine wpQuiet_nil_h hlq ?_
  clear hlq lq hB3
  intro V4 hV5
  go_upto_region 5 with (fail)
  go_cut [7] from 32 to 36 (fun x7 W => ∃ g7, x7 = .pointer (some ⟨g7, 0, none⟩) ∧ Bz w [(g7, oPP ⟨p, anyP (pfam p)⟩), (V1.heap.size, oP p), (g, .cells (strs [x, ⟨#[102, 114, 111, 109]⟩, z]).toArray 9), (w.heap.size, oPP zeroPr)] W)
  case first =>
    refine wp_region_held_drew (S := Bz w [(V1.heap.size, oP p), (g, .cells (strs [x, ⟨#[102, 114, 111, 109]⟩, z]).toArray 9), (w.heap.size, oPP zeroPr)]) (by kernel_rfl) (hV5.drew) (fun hHeld => ?_)
    refine wpAnyH_take (i := 0) (oi := { dst := (some 32), op := (Op.load 55 (Operand.tmp 5)), type := 55, pos := "addr.go:281", after := #[], guard := none }) (v := vPf p) rfl (by kernel_rfl) (by kernel_rfl) (by kernel_rfl) (fun _ _ _ h => h) (Or.inl ⟨by rfl, fun W hW => ?_⟩) (by assumption) ?_
    · obtain ⟨q1, q2, q3⟩ := BoxP.run hW.all.1 Hp.out.1
      exact exec_load 55 _ rfl rfl q3
    (try simp only [Act.put, List.setIfInBounds_toArray, List.set_cons_zero, List.set_cons_succ])
    refine wpAnyH_take (i := 1) (oi := { dst := (some 33), op := (Op.load 55 (Operand.tmp 5)), type := 55, pos := "addr.go:281", after := #[], guard := none }) (v := vPf p) rfl (by kernel_rfl) (by kernel_rfl) (by kernel_rfl) (fun _ _ _ h => h) (Or.inl ⟨by rfl, fun W hW => ?_⟩) (by assumption) ?_
    · obtain ⟨q1, q2, q3⟩ := BoxP.run hW.all.1 Hp.out.1
      exact exec_load 55 _ rfl rfl q3
    (try simp only [Act.put, List.setIfInBounds_toArray, List.set_cons_zero, List.set_cons_succ])
    refine wpAnyH_ready (rs := [2, 5]) (by kernel_rfl) (by simp) ?_
    refine AllReadyH.cons (o := { dst := (some 34), op := (Op.call { callee := (Callee.value (Operand.func 54)), args := #[(Operand.tmp 33)], argTypes := #[55] }), type := 3, pos := "addr.go:281", after := #[{ on := 1, ground := Ground.data }], guard := none }) rfl (fun K hK => ?_) (AllReadyH.cons (o := { dst := (some 7), op := (Op.alloc 57), type := 0, pos := "addr.go:281", after := #[], guard := none }) rfl (fun K hK => ?_) AllReadyH.nil)
    · go_simp
      refine (pfam_any Hp.out).mono ?_
      rintro e wA ⟨rfl, bel⟩
      refine hK.out _ _ ?_ (fun hHeld => ?_)
      · exact hHeld.go bel
      clear hK K
      (try simp only [Act.put, List.setIfInBounds_toArray, List.set_cons_zero, List.set_cons_succ])
      refine wpAnyH_ready (rs := [3, 5]) (by kernel_rfl) (by simp) ?_
      refine AllReadyH.cons (o := { dst := (some 35), op := (Op.call { callee := (Callee.value (Operand.func 55)), args := #[(Operand.tmp 34)], argTypes := #[3] }), type := 55, pos := "addr.go:281", after := #[{ on := 2, ground := Ground.data }, { on := 2, ground := Ground.chain }], guard := none }) rfl (fun K hK => ?_) (AllReadyH.cons (o := { dst := (some 7), op := (Op.alloc 57), type := 0, pos := "addr.go:281", after := #[], guard := none }) rfl (fun K hK => ?_) AllReadyH.nil)
      · go_simp
        refine (any_any (pfam p)).mono ?_
        rintro e wB ⟨rfl, bel⟩
        refine hK.out _ _ ?_ (fun hHeld => ?_)
        · exact hHeld.go bel
        clear hK K
        (try simp only [Act.put, List.setIfInBounds_toArray, List.set_cons_zero, List.set_cons_succ])
        refine wpAnyH_take (i := 4) (oi := { dst := (some 36), op := (Op.build 57 #[(0, (Operand.tmp 32)), (1, (Operand.tmp 35))]), type := 57, pos := "addr.go:281", after := #[{ on := 0, ground := Ground.data }, { on := 3, ground := Ground.data }], guard := none }) (v := .agg (pCs p.a p.n ++ pCs (anyP (pfam p)).a (anyP (pfam p)).n).toArray) rfl (by kernel_rfl) (by kernel_rfl) (by kernel_rfl) (fun _ _ _ h => h) (Or.inl ⟨by rfl, fun W hW => ?_⟩) (by assumption) ?_
        · exact exec_build2 (x := .tmp 32) (y := .tmp 35) rfl rfl rfl (built57 Hp.out.1 hq.out.1)
        (try simp only [Act.put, List.setIfInBounds_toArray, List.set_cons_zero, List.set_cons_succ])
        refine wpAnyH_ready (rs := [5]) (by kernel_rfl) (by simp) ?_
        refine AllReadyH.cons (o := { dst := (some 7), op := (Op.alloc 57), type := 0, pos := "addr.go:281", after := #[], guard := none }) rfl (fun K hK => ?_) AllReadyH.nil
        have hZ := hHeld.alloc (oPP zeroPr) rfl
        go_simp
        refine hK.out _ _ ?_ (fun hHeld => ?_)
        · exact hHeld.go ((Below.refl _ _).alloc (Nat.le_refl _) _)
        clear hK K
        (try simp only [Act.put, List.setIfInBounds_toArray, List.set_cons_zero, List.set_cons_succ])
        refine wpAnyH_ready (rs := [6]) (by kernel_rfl) (by simp) ?_
        refine AllReadyH.cons (o := { dst := none, op := (Op.store 57 (Operand.tmp 7) (Operand.tmp 36)), type := 0, pos := "addr.go:281", after := #[{ on := 5, ground := Ground.data }, { on := 4, ground := Ground.data }, { on := 3, ground := Ground.chain }, { on := 0, ground := Ground.phase }, { on := 1, ground := Ground.phase }, { on := 2, ground := Ground.phase }, { on := 3, ground := Ground.phase }, { on := 4, ground := Ground.phase }, { on := 5, ground := Ground.phase }], guard := none }) rfl (fun K hK => ?_) AllReadyH.nil
        have hF := hZ.set 0 rfl (pCs p.a p.n ++ pCs (anyP (pfam p)).a (anyP (pfam p)).n).toArray
        refine wanted_go (by rfl) ?_
        refine wp_store_row 57 (.tmp 7) (.tmp 36) rfl _ _ rfl rfl 57 _ hZ.all.1 (info57 (p := ⟨p, anyP (pfam p)⟩) ⟨Hp.out, hq.out⟩) ((pp_size zeroPr_fit).trans (pp_size (p := ⟨p, anyP (pfam p)⟩) ⟨Hp.out, hq.out⟩).symm) (pp_one ⟨p, anyP (pfam p)⟩) ?_
        refine hK.out _ _ ?_ (fun hHeld => ?_)
        · exact hF.tail
        clear hK K
        (try simp only [Act.put, List.setIfInBounds_toArray, List.set_cons_zero, List.set_cons_succ])
        refine wpAnyH_done (by kernel_rfl) ?_ _
        go_wp2_with fail
        go_meet
        exact ⟨_, rfl, hF⟩
      · have hZ := hHeld.alloc (oPP zeroPr) rfl
        go_simp
        refine hK.out _ _ ?_ (fun hHeld => ?_)
        · exact hHeld.go ((Below.refl _ _).alloc (Nat.le_refl _) _)
        clear hK K
        (try simp only [Act.put, List.setIfInBounds_toArray, List.set_cons_zero, List.set_cons_succ])
        refine wpAnyH_ready (rs := [3]) (by kernel_rfl) (by simp) ?_
        refine AllReadyH.cons (o := { dst := (some 35), op := (Op.call { callee := (Callee.value (Operand.func 55)), args := #[(Operand.tmp 34)], argTypes := #[3] }), type := 55, pos := "addr.go:281", after := #[{ on := 2, ground := Ground.data }, { on := 2, ground := Ground.chain }], guard := none }) rfl (fun K hK => ?_) AllReadyH.nil
        go_simp
        refine (any_any (pfam p)).mono ?_
        rintro e wB ⟨rfl, bel⟩
        replace hZ := hZ.go bel
        refine hK.out _ _ ?_ (fun hHeld => ?_)
        · exact hHeld.go bel
        clear hK K
        (try simp only [Act.put, List.setIfInBounds_toArray, List.set_cons_zero, List.set_cons_succ])
        refine wpAnyH_take (i := 4) (oi := { dst := (some 36), op := (Op.build 57 #[(0, (Operand.tmp 32)), (1, (Operand.tmp 35))]), type := 57, pos := "addr.go:281", after := #[{ on := 0, ground := Ground.data }, { on := 3, ground := Ground.data }], guard := none }) (v := .agg (pCs p.a p.n ++ pCs (anyP (pfam p)).a (anyP (pfam p)).n).toArray) rfl (by kernel_rfl) (by kernel_rfl) (by kernel_rfl) (fun _ _ _ h => h) (Or.inl ⟨by rfl, fun W hW => ?_⟩) (by assumption) ?_
        · exact exec_build2 (x := .tmp 32) (y := .tmp 35) rfl rfl rfl (built57 Hp.out.1 hq.out.1)
        (try simp only [Act.put, List.setIfInBounds_toArray, List.set_cons_zero, List.set_cons_succ])
        refine wpAnyH_ready (rs := [6]) (by kernel_rfl) (by simp) ?_
        refine AllReadyH.cons (o := { dst := none, op := (Op.store 57 (Operand.tmp 7) (Operand.tmp 36)), type := 0, pos := "addr.go:281", after := #[{ on := 5, ground := Ground.data }, { on := 4, ground := Ground.data }, { on := 3, ground := Ground.chain }, { on := 0, ground := Ground.phase }, { on := 1, ground := Ground.phase }, { on := 2, ground := Ground.phase }, { on := 3, ground := Ground.phase }, { on := 4, ground := Ground.phase }, { on := 5, ground := Ground.phase }], guard := none }) rfl (fun K hK => ?_) AllReadyH.nil
        have hF := hZ.set 0 rfl (pCs p.a p.n ++ pCs (anyP (pfam p)).a (anyP (pfam p)).n).toArray
        refine wanted_go (by rfl) ?_
        refine wp_store_row 57 (.tmp 7) (.tmp 36) rfl _ _ rfl rfl 57 _ hZ.all.1 (info57 (p := ⟨p, anyP (pfam p)⟩) ⟨Hp.out, hq.out⟩) ((pp_size zeroPr_fit).trans (pp_size (p := ⟨p, anyP (pfam p)⟩) ⟨Hp.out, hq.out⟩).symm) (pp_one ⟨p, anyP (pfam p)⟩) ?_
        refine hK.out _ _ ?_ (fun hHeld => ?_)
        · exact hF.tail
        clear hK K
        (try simp only [Act.put, List.setIfInBounds_toArray, List.set_cons_zero, List.set_cons_succ])
        refine wpAnyH_done (by kernel_rfl) ?_ _
        go_wp2_with fail
        go_meet
        exact ⟨_, rfl, hF⟩
    · have hZ := hHeld.alloc (oPP zeroPr) rfl
      go_simp
      refine hK.out _ _ ?_ (fun hHeld => ?_)
      · exact hHeld.go ((Below.refl _ _).alloc (Nat.le_refl _) _)
      clear hK K
      (try simp only [Act.put, List.setIfInBounds_toArray, List.set_cons_zero, List.set_cons_succ])
      refine wpAnyH_ready (rs := [2]) (by kernel_rfl) (by simp) ?_
      refine AllReadyH.cons (o := { dst := (some 34), op := (Op.call { callee := (Callee.value (Operand.func 54)), args := #[(Operand.tmp 33)], argTypes := #[55] }), type := 3, pos := "addr.go:281", after := #[{ on := 1, ground := Ground.data }], guard := none }) rfl (fun K hK => ?_) AllReadyH.nil
      go_simp
      refine (pfam_any Hp.out).mono ?_
      rintro e wA ⟨rfl, bel⟩
      replace hZ := hZ.go bel
      refine hK.out _ _ ?_ (fun hHeld => ?_)
      · exact hHeld.go bel
      clear hK K
      (try simp only [Act.put, List.setIfInBounds_toArray, List.set_cons_zero, List.set_cons_succ])
      refine wpAnyH_ready (rs := [3]) (by kernel_rfl) (by simp) ?_
      refine AllReadyH.cons (o := { dst := (some 35), op := (Op.call { callee := (Callee.value (Operand.func 55)), args := #[(Operand.tmp 34)], argTypes := #[3] }), type := 55, pos := "addr.go:281", after := #[{ on := 2, ground := Ground.data }, { on := 2, ground := Ground.chain }], guard := none }) rfl (fun K hK => ?_) AllReadyH.nil
      go_simp
      refine (any_any (pfam p)).mono ?_
      rintro e wB ⟨rfl, bel⟩
      replace hZ := hZ.go bel
      refine hK.out _ _ ?_ (fun hHeld => ?_)
      · exact hHeld.go bel
      clear hK K
      (try simp only [Act.put, List.setIfInBounds_toArray, List.set_cons_zero, List.set_cons_succ])
      refine wpAnyH_take (i := 4) (oi := { dst := (some 36), op := (Op.build 57 #[(0, (Operand.tmp 32)), (1, (Operand.tmp 35))]), type := 57, pos := "addr.go:281", after := #[{ on := 0, ground := Ground.data }, { on := 3, ground := Ground.data }], guard := none }) (v := .agg (pCs p.a p.n ++ pCs (anyP (pfam p)).a (anyP (pfam p)).n).toArray) rfl (by kernel_rfl) (by kernel_rfl) (by kernel_rfl) (fun _ _ _ h => h) (Or.inl ⟨by rfl, fun W hW => ?_⟩) (by assumption) ?_
      · exact exec_build2 (x := .tmp 32) (y := .tmp 35) rfl rfl rfl (built57 Hp.out.1 hq.out.1)
      (try simp only [Act.put, List.setIfInBounds_toArray, List.set_cons_zero, List.set_cons_succ])
      refine wpAnyH_ready (rs := [6]) (by kernel_rfl) (by simp) ?_
      refine AllReadyH.cons (o := { dst := none, op := (Op.store 57 (Operand.tmp 7) (Operand.tmp 36)), type := 0, pos := "addr.go:281", after := #[{ on := 5, ground := Ground.data }, { on := 4, ground := Ground.data }, { on := 3, ground := Ground.chain }, { on := 0, ground := Ground.phase }, { on := 1, ground := Ground.phase }, { on := 2, ground := Ground.phase }, { on := 3, ground := Ground.phase }, { on := 4, ground := Ground.phase }, { on := 5, ground := Ground.phase }], guard := none }) rfl (fun K hK => ?_) AllReadyH.nil
      have hF := hZ.set 0 rfl (pCs p.a p.n ++ pCs (anyP (pfam p)).a (anyP (pfam p)).n).toArray
      refine wanted_go (by rfl) ?_
      refine wp_store_row 57 (.tmp 7) (.tmp 36) rfl _ _ rfl rfl 57 _ hZ.all.1 (info57 (p := ⟨p, anyP (pfam p)⟩) ⟨Hp.out, hq.out⟩) ((pp_size zeroPr_fit).trans (pp_size (p := ⟨p, anyP (pfam p)⟩) ⟨Hp.out, hq.out⟩).symm) (pp_one ⟨p, anyP (pfam p)⟩) ?_
      refine hK.out _ _ ?_ (fun hHeld => ?_)
      · exact hF.tail
      clear hK K
      (try simp only [Act.put, List.setIfInBounds_toArray, List.set_cons_zero, List.set_cons_succ])
      refine wpAnyH_done (by kernel_rfl) ?_ _
      go_wp2_with fail
      go_meet
      exact ⟨_, rfl, hF⟩
  case rest =>
    obtain ⟨g7, rfl, hC⟩ := hcut
    have hZ0 := hC.all.get 3 (x := (w.heap.size, oPP zeroPr)) rfl
    go_wp2_with (refine wpList_store_row rfl 57 (.tmp 2) (.tmp 58) rfl w.heap.size (pCs zeroA 0 ++ pCs zeroA 0).toArray rfl rfl 57 _ hZ0 (info57 zeroPr_fit) rfl (pp_one zeroPr) ?_)
    refine bodyPost_ret (v := .tuple #[vPP zeroPr, .int .i64 e]) ?_ rfl ⟨rfl, below_row hC.bel (Nat.le_refl _) _⟩
    exact results_cell_tmp rfl _ _ rfl (BoxPP.run (p := zeroPr) (setRow_heap _ _ _ _ _ _ hZ0) zeroPr_fit).2.2 rfl
theorem wpList_store_src {ops : Array Oper} {rest : List Oper} {o : Oper} {a : Act} {w : World} {Q : Exit → Act → World → Prop} (hgd : o.guard = none) (x y : Operand) (ho : o.op = .store 55 x y) {g : Nat} {q : Pr} {r : Pf} (hx : a.eval x = .pointer (some ⟨g, 17, none⟩)) (hy : a.eval y = vPf r) (hg : w.heap[g]? = some (oPP q)) (hq : q.fit) (hr : r.ok)
    (h : wpList Tryz.prog ops Q rest (a.put o.dst undef) (w.setRow g (pCs q.d.a q.d.n ++ pCs r.a r.n).toArray)) : wpList Tryz.prog ops Q (o :: rest) a w := by
  have l1 := pCs_len (n := q.d.n) hq.1.1
  have l2 := pCs_len (n := q.s.n) hq.2.1
  have l3 := pCs_len (n := r.n) hr.1
  have hg2 : w.heap[g]? = some (.cells (pCs q.d.a q.d.n ++ pCs q.s.a q.s.n).toArray 57) := hg
  refine wpList_store_mid hgd 55 x y ho g 17 (pCs r.a r.n).toArray hx hy (fun j hj => ?_) (info55 hr.1 _) (pCs_one _ _) ?_
  · have hj2 : 17 + j < (pCs q.d.a q.d.n ++ pCs q.s.a q.s.n).length := by rw [List.length_append, l1, l2]; simp [l3] at hj; omega
    refine ⟨?_, row_free hg2⟩
    rw [row_cell hg2, List.getElem?_toArray, List.getElem?_eq_getElem hj2]; rfl
  · show wpList _ _ _ _ _ (w.setCells g 17 (pCs r.a r.n))
    rw [setCells_row _ 17 w g _ 57 hg2 (by rw [List.length_append, l1, l2, l3]; omega), List.take_left' l1, List.drop_eq_nil_of_le (by rw [List.length_append, l1, l2, l3]; omega), List.append_nil]
    exact h
set_option maxRecDepth 100000 in
set_option maxHeartbeats 3200000 in
theorem pair_err2 {w : World} (E : Env w) {s : ByteArray} (hs : s.size < 4294967281) {x z : ByteArray} (hx : x.size < 4294967281) (hz : z.size < 4294967281) (hsp : pieces s ⟨#[32]⟩ = [x, ⟨#[102, 114, 111, 109]⟩, z]) {p : Pf} (hp : p.ok) (hpp : parsePS x = (p, 0)) {r : Pf} {e2 : Int} (hr : r.ok) (hpr : parsePS z = (r, e2)) (he : e2 ≠ 0) : Calls Tryz.prog 58 #[.string s] w fun e' w' => PairR zeroPr e2 e' ∧ Below w.heap.size w w' := by
  have Hp := Lib.hid hp
  have hq := Lib.hid (any_ok (pfam p))
  have c1 : ∀ {W : World}, Env W → Calls Tryz.prog 56 #[.string x] W fun e' w' => e' = .returned (.tuple #[vPf p, .int .i64 0]) ∧ Below W.heap.size W w' := fun EW => pp_is EW hx hpp
  have B0 := ((Bz.start w).alloc (oPP zeroPr) rfl : Bz w [(w.heap.size, oPP zeroPr)] _)
  have E0 := B0.env E
  clear hpp
  have h1 : (e2 == 0) = false := by simpa using he
  have h2 : (e2 != 0) = true := by simpa using he
  have Hr := Lib.hid hr
  have c2 : ∀ {W : World}, Env W → Calls Tryz.prog 56 #[.string z] W fun e' w' => e' = .returned (.tuple #[vPf r, .int .i64 e2]) ∧ Below W.heap.size W w' := fun EW => pp_is EW hz hpr
  replace he := Lib.hid he
  clear hr hpr
  go_enter Tryz.func58, Tryz.ntmps58
  go_upto_region 4 with (go_at_call 99; refine (split_op (n := 3) E0 hs (by decide) hsp rfl).mono ?_; rintro e' w1 ⟨⟨g, rfl, hg, hrow⟩, bel⟩; have B1 := B0.more bel hg hrow; have hc1 : w1.cell? ⟨g, 1, none⟩ = some (.string ⟨#[102, 114, 111, 109]⟩) := (row_cell hrow).trans rfl)
  clear hp B0 E0
  go_wp2_with (refine wpList_quiet_take (C := Bz w [(g, .cells (strs [x, ⟨#[102, 114, 111, 109]⟩, z]).toArray 9), (w.heap.size, oPP zeroPr)]) 9 6 (by rfl) B1 ?_)
  (try simp only [List.take_succ_cons, List.take_zero, List.drop_succ_cons, List.drop_zero])
  refine wpQuiet_hide ?_
  intro lq hlq
  refine wpQuiet_step_h hlq ?_
  clear hlq lq
  intro K lq hlq hK
  refine wanted_go (by rfl) ?_
  refine ⟨?_, fun W hW => ?_, ?_⟩
  rotate_left
  · skip
    go_simp
    with_reducible rfl
  refine hK _ ?_
  clear hK K
  (try simp only [Act.put, List.setIfInBounds_toArray, List.set_cons_zero, List.set_cons_succ])
  refine wpQuiet_step_h hlq ?_
  clear hlq lq
  intro K lq hlq hK
  refine wanted_go (by rfl) ?_
  refine ⟨.string x, fun W hW => ?_, ?_⟩
  · skip
    exact quiet_load 9 _ rfl rfl (ldStr (hW.all.get 0 (x := (g, .cells (strs [x, ⟨#[102, 114, 111, 109]⟩, z]).toArray 9)) rfl) 0 rfl)
  refine hK _ ?_
  clear hK K
  (try simp only [Act.put, List.setIfInBounds_toArray, List.set_cons_zero, List.set_cons_succ])
  refine wpQuiet_step_h hlq ?_
  clear hlq lq
  intro K lq hlq hK
  refine wanted_go (by rfl) ?_
  refine ⟨.tuple #[vPf p, .int .i64 0], fun W hW => ?_, ?_⟩
  · go_simp
    have E' := hW.env E
    exact (c1 E').mono fun e W2 hc2 => ⟨hc2.1, hW.go hc2.2⟩
  refine hK _ ?_
  clear hK K
  (try simp only [Act.put, List.setIfInBounds_toArray, List.set_cons_zero, List.set_cons_succ])
  refine wpQuiet_step_h hlq ?_
  clear hlq lq
  intro K lq hlq hK
  refine wanted_go (by rfl) ?_
  refine ⟨?_, fun W hW => ?_, ?_⟩
  rotate_left
  · skip
    go_simp
    with_reducible rfl
  refine hK _ ?_
  clear hK K
  (try simp only [Act.put, List.setIfInBounds_toArray, List.set_cons_zero, List.set_cons_succ])
  refine wpQuiet_step_h hlq ?_
  clear hlq lq
  intro K lq hlq hK
  refine wanted_go (by rfl) ?_
  refine ⟨?_, fun W hW => ?_, ?_⟩
  rotate_left
  · skip
    go_simp
    with_reducible rfl
  refine hK _ ?_
  clear hK K
  (try simp only [Act.put, List.setIfInBounds_toArray, List.set_cons_zero, List.set_cons_succ])
  refine wpQuiet_step_h hlq ?_
  clear hlq lq
  intro K lq hlq hK
  refine wanted_go (by rfl) ?_
  refine ⟨?_, fun W hW => ?_, ?_⟩
  rotate_left
  · skip
    go_simp
    with_reducible rfl
  refine hK _ ?_
  clear hK K
  (try simp only [Act.put, List.setIfInBounds_toArray, List.set_cons_zero, List.set_cons_succ])
  refine wpQuiet_nil_h hlq ?_
  clear hlq lq B1
  intro V1 hV2
  refine wpList_new rfl rfl rfl rfl z55 rfl (by rfl) (by rfl) (info55 Hp.out.1 _) (sizeP' Hp.out) (pCs_one _ _) ?_
  (try simp only [Act.put, List.setIfInBounds_toArray, List.set_cons_zero, List.set_cons_succ])
  have hB3 : Bz w [(V1.heap.size, oP p), (g, .cells (strs [x, ⟨#[102, 114, 111, 109]⟩, z]).toArray 9), (w.heap.size, oPP zeroPr)] (V1.alloc (oP p)) := hV2.alloc (oP p) rfl
  clear hV2
  refine wpList_quiet (C := Bz w [(V1.heap.size, oP p), (g, .cells (strs [x, ⟨#[102, 114, 111, 109]⟩, z]).toArray 9), (w.heap.size, oPP zeroPr)]) 1 (by rfl) hB3 ?_
  refine wpQuiet_hide ?_
  intro lq hlq
  refine wpQuiet_step_h hlq ?_
  clear hlq lq
  intro K lq hlq hK
  refine wanted_go (by rfl) ?_
  refine ⟨?_, fun W hW => ?_, ?_⟩
  rotate_left
  · skip
    go_simp
    with_reducible rfl
  refine hK _ ?_
  clear hK K
  (try simp only [Act.put, List.setIfInBounds_toArray, List.set_cons_zero, List.set_cons_succ])
  refine wpQuiet_nil_h hlq ?_
  clear hlq lq hB3
  intro V4 hV5
  go_upto_region 5 with (fail)
  go_cut [7] from 32 to 36 (fun x7 W => ∃ g7, x7 = .pointer (some ⟨g7, 0, none⟩) ∧ Bz w [(g7, oPP ⟨p, anyP (pfam p)⟩), (V1.heap.size, oP p), (g, .cells (strs [x, ⟨#[102, 114, 111, 109]⟩, z]).toArray 9), (w.heap.size, oPP zeroPr)] W)
  case first =>
    refine wp_region_held_drew (S := Bz w [(V1.heap.size, oP p), (g, .cells (strs [x, ⟨#[102, 114, 111, 109]⟩, z]).toArray 9), (w.heap.size, oPP zeroPr)]) (by kernel_rfl) (hV5.drew) (fun hHeld => ?_)
    refine wpAnyH_take (i := 0) (oi := { dst := (some 32), op := (Op.load 55 (Operand.tmp 5)), type := 55, pos := "addr.go:281", after := #[], guard := none }) (v := vPf p) rfl (by kernel_rfl) (by kernel_rfl) (by kernel_rfl) (fun _ _ _ h => h) (Or.inl ⟨by rfl, fun W hW => ?_⟩) (by assumption) ?_
    · obtain ⟨q1, q2, q3⟩ := BoxP.run hW.all.1 Hp.out.1
      exact exec_load 55 _ rfl rfl q3
    (try simp only [Act.put, List.setIfInBounds_toArray, List.set_cons_zero, List.set_cons_succ])
    refine wpAnyH_take (i := 1) (oi := { dst := (some 33), op := (Op.load 55 (Operand.tmp 5)), type := 55, pos := "addr.go:281", after := #[], guard := none }) (v := vPf p) rfl (by kernel_rfl) (by kernel_rfl) (by kernel_rfl) (fun _ _ _ h => h) (Or.inl ⟨by rfl, fun W hW => ?_⟩) (by assumption) ?_
    · obtain ⟨q1, q2, q3⟩ := BoxP.run hW.all.1 Hp.out.1
      exact exec_load 55 _ rfl rfl q3
    (try simp only [Act.put, List.setIfInBounds_toArray, List.set_cons_zero, List.set_cons_succ])
    refine wpAnyH_ready (rs := [2, 5]) (by kernel_rfl) (by simp) ?_
    refine AllReadyH.cons (o := { dst := (some 34), op := (Op.call { callee := (Callee.value (Operand.func 54)), args := #[(Operand.tmp 33)], argTypes := #[55] }), type := 3, pos := "addr.go:281", after := #[{ on := 1, ground := Ground.data }], guard := none }) rfl (fun K hK => ?_) (AllReadyH.cons (o := { dst := (some 7), op := (Op.alloc 57), type := 0, pos := "addr.go:281", after := #[], guard := none }) rfl (fun K hK => ?_) AllReadyH.nil)
    · go_simp
      refine (pfam_any Hp.out).mono ?_
      rintro e wA ⟨rfl, bel⟩
      refine hK.out _ _ ?_ (fun hHeld => ?_)
      · exact hHeld.go bel
      clear hK K
      (try simp only [Act.put, List.setIfInBounds_toArray, List.set_cons_zero, List.set_cons_succ])
      refine wpAnyH_ready (rs := [3, 5]) (by kernel_rfl) (by simp) ?_
      refine AllReadyH.cons (o := { dst := (some 35), op := (Op.call { callee := (Callee.value (Operand.func 55)), args := #[(Operand.tmp 34)], argTypes := #[3] }), type := 55, pos := "addr.go:281", after := #[{ on := 2, ground := Ground.data }, { on := 2, ground := Ground.chain }], guard := none }) rfl (fun K hK => ?_) (AllReadyH.cons (o := { dst := (some 7), op := (Op.alloc 57), type := 0, pos := "addr.go:281", after := #[], guard := none }) rfl (fun K hK => ?_) AllReadyH.nil)
      · go_simp
        refine (any_any (pfam p)).mono ?_
        rintro e wB ⟨rfl, bel⟩
        refine hK.out _ _ ?_ (fun hHeld => ?_)
        · exact hHeld.go bel
        clear hK K
        (try simp only [Act.put, List.setIfInBounds_toArray, List.set_cons_zero, List.set_cons_succ])
        refine wpAnyH_take (i := 4) (oi := { dst := (some 36), op := (Op.build 57 #[(0, (Operand.tmp 32)), (1, (Operand.tmp 35))]), type := 57, pos := "addr.go:281", after := #[{ on := 0, ground := Ground.data }, { on := 3, ground := Ground.data }], guard := none }) (v := .agg (pCs p.a p.n ++ pCs (anyP (pfam p)).a (anyP (pfam p)).n).toArray) rfl (by kernel_rfl) (by kernel_rfl) (by kernel_rfl) (fun _ _ _ h => h) (Or.inl ⟨by rfl, fun W hW => ?_⟩) (by assumption) ?_
        · exact exec_build2 (x := .tmp 32) (y := .tmp 35) rfl rfl rfl (built57 Hp.out.1 hq.out.1)
        (try simp only [Act.put, List.setIfInBounds_toArray, List.set_cons_zero, List.set_cons_succ])
        refine wpAnyH_ready (rs := [5]) (by kernel_rfl) (by simp) ?_
        refine AllReadyH.cons (o := { dst := (some 7), op := (Op.alloc 57), type := 0, pos := "addr.go:281", after := #[], guard := none }) rfl (fun K hK => ?_) AllReadyH.nil
        have hZ := hHeld.alloc (oPP zeroPr) rfl
        go_simp
        refine hK.out _ _ ?_ (fun hHeld => ?_)
        · exact hHeld.go ((Below.refl _ _).alloc (Nat.le_refl _) _)
        clear hK K
        (try simp only [Act.put, List.setIfInBounds_toArray, List.set_cons_zero, List.set_cons_succ])
        refine wpAnyH_ready (rs := [6]) (by kernel_rfl) (by simp) ?_
        refine AllReadyH.cons (o := { dst := none, op := (Op.store 57 (Operand.tmp 7) (Operand.tmp 36)), type := 0, pos := "addr.go:281", after := #[{ on := 5, ground := Ground.data }, { on := 4, ground := Ground.data }, { on := 3, ground := Ground.chain }, { on := 0, ground := Ground.phase }, { on := 1, ground := Ground.phase }, { on := 2, ground := Ground.phase }, { on := 3, ground := Ground.phase }, { on := 4, ground := Ground.phase }, { on := 5, ground := Ground.phase }], guard := none }) rfl (fun K hK => ?_) AllReadyH.nil
        have hF := hZ.set 0 rfl (pCs p.a p.n ++ pCs (anyP (pfam p)).a (anyP (pfam p)).n).toArray
        refine wanted_go (by rfl) ?_
        refine wp_store_row 57 (.tmp 7) (.tmp 36) rfl _ _ rfl rfl 57 _ hZ.all.1 (info57 (p := ⟨p, anyP (pfam p)⟩) ⟨Hp.out, hq.out⟩) ((pp_size zeroPr_fit).trans (pp_size (p := ⟨p, anyP (pfam p)⟩) ⟨Hp.out, hq.out⟩).symm) (pp_one ⟨p, anyP (pfam p)⟩) ?_
        refine hK.out _ _ ?_ (fun hHeld => ?_)
        · exact hF.tail
        clear hK K
        (try simp only [Act.put, List.setIfInBounds_toArray, List.set_cons_zero, List.set_cons_succ])
        refine wpAnyH_done (by kernel_rfl) ?_ _
        go_wp2_with fail
        go_meet
        exact ⟨_, rfl, hF⟩
      · have hZ := hHeld.alloc (oPP zeroPr) rfl
        go_simp
        refine hK.out _ _ ?_ (fun hHeld => ?_)
        · exact hHeld.go ((Below.refl _ _).alloc (Nat.le_refl _) _)
        clear hK K
        (try simp only [Act.put, List.setIfInBounds_toArray, List.set_cons_zero, List.set_cons_succ])
        refine wpAnyH_ready (rs := [3]) (by kernel_rfl) (by simp) ?_
        refine AllReadyH.cons (o := { dst := (some 35), op := (Op.call { callee := (Callee.value (Operand.func 55)), args := #[(Operand.tmp 34)], argTypes := #[3] }), type := 55, pos := "addr.go:281", after := #[{ on := 2, ground := Ground.data }, { on := 2, ground := Ground.chain }], guard := none }) rfl (fun K hK => ?_) AllReadyH.nil
        go_simp
        refine (any_any (pfam p)).mono ?_
        rintro e wB ⟨rfl, bel⟩
        replace hZ := hZ.go bel
        refine hK.out _ _ ?_ (fun hHeld => ?_)
        · exact hHeld.go bel
        clear hK K
        (try simp only [Act.put, List.setIfInBounds_toArray, List.set_cons_zero, List.set_cons_succ])
        refine wpAnyH_take (i := 4) (oi := { dst := (some 36), op := (Op.build 57 #[(0, (Operand.tmp 32)), (1, (Operand.tmp 35))]), type := 57, pos := "addr.go:281", after := #[{ on := 0, ground := Ground.data }, { on := 3, ground := Ground.data }], guard := none }) (v := .agg (pCs p.a p.n ++ pCs (anyP (pfam p)).a (anyP (pfam p)).n).toArray) rfl (by kernel_rfl) (by kernel_rfl) (by kernel_rfl) (fun _ _ _ h => h) (Or.inl ⟨by rfl, fun W hW => ?_⟩) (by assumption) ?_
        · exact exec_build2 (x := .tmp 32) (y := .tmp 35) rfl rfl rfl (built57 Hp.out.1 hq.out.1)
        (try simp only [Act.put, List.setIfInBounds_toArray, List.set_cons_zero, List.set_cons_succ])
        refine wpAnyH_ready (rs := [6]) (by kernel_rfl) (by simp) ?_
        refine AllReadyH.cons (o := { dst := none, op := (Op.store 57 (Operand.tmp 7) (Operand.tmp 36)), type := 0, pos := "addr.go:281", after := #[{ on := 5, ground := Ground.data }, { on := 4, ground := Ground.data }, { on := 3, ground := Ground.chain }, { on := 0, ground := Ground.phase }, { on := 1, ground := Ground.phase }, { on := 2, ground := Ground.phase }, { on := 3, ground := Ground.phase }, { on := 4, ground := Ground.phase }, { on := 5, ground := Ground.phase }], guard := none }) rfl (fun K hK => ?_) AllReadyH.nil
        have hF := hZ.set 0 rfl (pCs p.a p.n ++ pCs (anyP (pfam p)).a (anyP (pfam p)).n).toArray
        refine wanted_go (by rfl) ?_
        refine wp_store_row 57 (.tmp 7) (.tmp 36) rfl _ _ rfl rfl 57 _ hZ.all.1 (info57 (p := ⟨p, anyP (pfam p)⟩) ⟨Hp.out, hq.out⟩) ((pp_size zeroPr_fit).trans (pp_size (p := ⟨p, anyP (pfam p)⟩) ⟨Hp.out, hq.out⟩).symm) (pp_one ⟨p, anyP (pfam p)⟩) ?_
        refine hK.out _ _ ?_ (fun hHeld => ?_)
        · exact hF.tail
        clear hK K
        (try simp only [Act.put, List.setIfInBounds_toArray, List.set_cons_zero, List.set_cons_succ])
        refine wpAnyH_done (by kernel_rfl) ?_ _
        go_wp2_with fail
        go_meet
        exact ⟨_, rfl, hF⟩
    · have hZ := hHeld.alloc (oPP zeroPr) rfl
      go_simp
      refine hK.out _ _ ?_ (fun hHeld => ?_)
      · exact hHeld.go ((Below.refl _ _).alloc (Nat.le_refl _) _)
      clear hK K
      (try simp only [Act.put, List.setIfInBounds_toArray, List.set_cons_zero, List.set_cons_succ])
      refine wpAnyH_ready (rs := [2]) (by kernel_rfl) (by simp) ?_
      refine AllReadyH.cons (o := { dst := (some 34), op := (Op.call { callee := (Callee.value (Operand.func 54)), args := #[(Operand.tmp 33)], argTypes := #[55] }), type := 3, pos := "addr.go:281", after := #[{ on := 1, ground := Ground.data }], guard := none }) rfl (fun K hK => ?_) AllReadyH.nil
      go_simp
      refine (pfam_any Hp.out).mono ?_
      rintro e wA ⟨rfl, bel⟩
      replace hZ := hZ.go bel
      refine hK.out _ _ ?_ (fun hHeld => ?_)
      · exact hHeld.go bel
      clear hK K
      (try simp only [Act.put, List.setIfInBounds_toArray, List.set_cons_zero, List.set_cons_succ])
      refine wpAnyH_ready (rs := [3]) (by kernel_rfl) (by simp) ?_
      refine AllReadyH.cons (o := { dst := (some 35), op := (Op.call { callee := (Callee.value (Operand.func 55)), args := #[(Operand.tmp 34)], argTypes := #[3] }), type := 55, pos := "addr.go:281", after := #[{ on := 2, ground := Ground.data }, { on := 2, ground := Ground.chain }], guard := none }) rfl (fun K hK => ?_) AllReadyH.nil
      go_simp
      refine (any_any (pfam p)).mono ?_
      rintro e wB ⟨rfl, bel⟩
      replace hZ := hZ.go bel
      refine hK.out _ _ ?_ (fun hHeld => ?_)
      · exact hHeld.go bel
      clear hK K
      (try simp only [Act.put, List.setIfInBounds_toArray, List.set_cons_zero, List.set_cons_succ])
      refine wpAnyH_take (i := 4) (oi := { dst := (some 36), op := (Op.build 57 #[(0, (Operand.tmp 32)), (1, (Operand.tmp 35))]), type := 57, pos := "addr.go:281", after := #[{ on := 0, ground := Ground.data }, { on := 3, ground := Ground.data }], guard := none }) (v := .agg (pCs p.a p.n ++ pCs (anyP (pfam p)).a (anyP (pfam p)).n).toArray) rfl (by kernel_rfl) (by kernel_rfl) (by kernel_rfl) (fun _ _ _ h => h) (Or.inl ⟨by rfl, fun W hW => ?_⟩) (by assumption) ?_
      · exact exec_build2 (x := .tmp 32) (y := .tmp 35) rfl rfl rfl (built57 Hp.out.1 hq.out.1)
      (try simp only [Act.put, List.setIfInBounds_toArray, List.set_cons_zero, List.set_cons_succ])
      refine wpAnyH_ready (rs := [6]) (by kernel_rfl) (by simp) ?_
      refine AllReadyH.cons (o := { dst := none, op := (Op.store 57 (Operand.tmp 7) (Operand.tmp 36)), type := 0, pos := "addr.go:281", after := #[{ on := 5, ground := Ground.data }, { on := 4, ground := Ground.data }, { on := 3, ground := Ground.chain }, { on := 0, ground := Ground.phase }, { on := 1, ground := Ground.phase }, { on := 2, ground := Ground.phase }, { on := 3, ground := Ground.phase }, { on := 4, ground := Ground.phase }, { on := 5, ground := Ground.phase }], guard := none }) rfl (fun K hK => ?_) AllReadyH.nil
      have hF := hZ.set 0 rfl (pCs p.a p.n ++ pCs (anyP (pfam p)).a (anyP (pfam p)).n).toArray
      refine wanted_go (by rfl) ?_
      refine wp_store_row 57 (.tmp 7) (.tmp 36) rfl _ _ rfl rfl 57 _ hZ.all.1 (info57 (p := ⟨p, anyP (pfam p)⟩) ⟨Hp.out, hq.out⟩) ((pp_size zeroPr_fit).trans (pp_size (p := ⟨p, anyP (pfam p)⟩) ⟨Hp.out, hq.out⟩).symm) (pp_one ⟨p, anyP (pfam p)⟩) ?_
      refine hK.out _ _ ?_ (fun hHeld => ?_)
      · exact hF.tail
      clear hK K
      (try simp only [Act.put, List.setIfInBounds_toArray, List.set_cons_zero, List.set_cons_succ])
      refine wpAnyH_done (by kernel_rfl) ?_ _
      go_wp2_with fail
      go_meet
      exact ⟨_, rfl, hF⟩
  case rest =>
    obtain ⟨g7, rfl, hC⟩ := hcut
    have E7 := hC.env E
    have hcz : wc.cell? ⟨g, 2, none⟩ = some (.string z) := (row_cell (hC.all.get 2 (x := (g, .cells (strs [x, ⟨#[102, 114, 111, 109]⟩, z]).toArray 9)) rfl)).trans rfl
    go_wp2_with (first
      | (refine wpList_store_row rfl 57 (.tmp 2) (.tmp 58) rfl w.heap.size (pCs zeroA 0 ++ pCs zeroA 0).toArray rfl rfl 57 _ (B9.all.get 3 (x := (w.heap.size, oPP zeroPr)) rfl) (info57 zeroPr_fit) rfl (pp_one zeroPr) ?_)
      | (refine wpList_store_src rfl (.tmp 51) (.tmp 49) rfl (g := g7) (q := ⟨p, anyP (pfam p)⟩) (r := r) rfl rfl (B8.all.get 0 (x := (g7, oPP ⟨p, anyP (pfam p)⟩)) rfl) ⟨Hp.out, hq.out⟩ Hr.out ?_; have B9 := (B8.set 0 rfl (pCs p.a p.n ++ pCs r.a r.n).toArray : Bz w [(g7, oPP ⟨p, r⟩), (V1.heap.size, oP p), (g, .cells (strs [x, ⟨#[102, 114, 111, 109]⟩, z]).toArray 9), (w.heap.size, oPP zeroPr)] _))
      | (go_at_call 56; refine (c2 E7).mono ?_; rintro e' w8 ⟨rfl, bel8⟩; have B8 := hC.go bel8))
    refine bodyPost_ret (v := .tuple #[vPP zeroPr, .int .i64 e2]) ?_ rfl ⟨rfl, below_row B9.bel (Nat.le_refl _) _⟩
    exact results_cell_tmp rfl _ _ rfl (BoxPP.run (p := zeroPr) (setRow_heap _ _ _ _ _ _ (B9.all.get 3 (x := (w.heap.size, oPP zeroPr)) rfl)) zeroPr_fit).2.2 rfl
set_option maxRecDepth 100000 in
set_option maxHeartbeats 3200000 in
theorem pair_err4 {w : World} (E : Env w) {s : ByteArray} (hs : s.size < 4294967281) {x z : ByteArray} (hx : x.size < 4294967281) (hz : z.size < 4294967281) (hsp : pieces s ⟨#[32]⟩ = [x, ⟨#[102, 114, 111, 109]⟩, z]) {p : Pf} (hp : p.ok) (hpp : parsePS x = (p, 0)) {r : Pf} (hr : r.ok) (hpr : parsePS z = (r, 0)) (hc : chkPP ⟨p, r⟩ = false) : Calls Tryz.prog 58 #[.string s] w fun e' w' => PairR zeroPr 21 e' ∧ Below w.heap.size w w' := by
  have Hp := Lib.hid hp
  have hq := Lib.hid (any_ok (pfam p))
  have c1 : ∀ {W : World}, Env W → Calls Tryz.prog 56 #[.string x] W fun e' w' => e' = .returned (.tuple #[vPf p, .int .i64 0]) ∧ Below W.heap.size W w' := fun EW => pp_is EW hx hpp
  have B0 := ((Bz.start w).alloc (oPP zeroPr) rfl : Bz w [(w.heap.size, oPP zeroPr)] _)
  have E0 := B0.env E
  clear hpp
  have hchk : ∀ {W : World}, Calls Tryz.prog 60 #[.agg (pCs p.a p.n ++ pCs r.a r.n).toArray] W fun e w' => e = .returned (.int .i64 21) ∧ Below W.heap.size W w' := fun {W} => chkPP_call (p := ⟨p, r⟩) ⟨hp, hr⟩ (by rw [hc]; rfl)
  have Hr := Lib.hid hr
  have c2 : ∀ {W : World}, Env W → Calls Tryz.prog 56 #[.string z] W fun e' w' => e' = .returned (.tuple #[vPf r, .int .i64 0]) ∧ Below W.heap.size W w' := fun EW => pp_is EW hz hpr
  clear hr hpr hc
  go_enter Tryz.func58, Tryz.ntmps58
  go_upto_region 4 with (go_at_call 99; refine (split_op (n := 3) E0 hs (by decide) hsp rfl).mono ?_; rintro e' w1 ⟨⟨g, rfl, hg, hrow⟩, bel⟩; have B1 := B0.more bel hg hrow; have hc1 : w1.cell? ⟨g, 1, none⟩ = some (.string ⟨#[102, 114, 111, 109]⟩) := (row_cell hrow).trans rfl)
  clear hp B0 E0
  go_wp2_with (refine wpList_quiet_take (C := Bz w [(g, .cells (strs [x, ⟨#[102, 114, 111, 109]⟩, z]).toArray 9), (w.heap.size, oPP zeroPr)]) 9 6 (by rfl) B1 ?_)
  (try simp only [List.take_succ_cons, List.take_zero, List.drop_succ_cons, List.drop_zero])
  refine wpQuiet_hide ?_
  intro lq hlq
  refine wpQuiet_step_h hlq ?_
  clear hlq lq
  intro K lq hlq hK
  refine wanted_go (by rfl) ?_
  refine ⟨?_, fun W hW => ?_, ?_⟩
  rotate_left
  · skip
    go_simp
    with_reducible rfl
  refine hK _ ?_
  clear hK K
  (try simp only [Act.put, List.setIfInBounds_toArray, List.set_cons_zero, List.set_cons_succ])
  refine wpQuiet_step_h hlq ?_
  clear hlq lq
  intro K lq hlq hK
  refine wanted_go (by rfl) ?_
  refine ⟨.string x, fun W hW => ?_, ?_⟩
  · skip
    exact quiet_load 9 _ rfl rfl (ldStr (hW.all.get 0 (x := (g, .cells (strs [x, ⟨#[102, 114, 111, 109]⟩, z]).toArray 9)) rfl) 0 rfl)
  refine hK _ ?_
  clear hK K
  (try simp only [Act.put, List.setIfInBounds_toArray, List.set_cons_zero, List.set_cons_succ])
  refine wpQuiet_step_h hlq ?_
  clear hlq lq
  intro K lq hlq hK
  refine wanted_go (by rfl) ?_
  refine ⟨.tuple #[vPf p, .int .i64 0], fun W hW => ?_, ?_⟩
  · go_simp
    have E' := hW.env E
    exact (c1 E').mono fun e W2 hc2 => ⟨hc2.1, hW.go hc2.2⟩
  refine hK _ ?_
  clear hK K
  (try simp only [Act.put, List.setIfInBounds_toArray, List.set_cons_zero, List.set_cons_succ])
  refine wpQuiet_step_h hlq ?_
  clear hlq lq
  intro K lq hlq hK
  refine wanted_go (by rfl) ?_
  refine ⟨?_, fun W hW => ?_, ?_⟩
  rotate_left
  · skip
    go_simp
    with_reducible rfl
  refine hK _ ?_
  clear hK K
  (try simp only [Act.put, List.setIfInBounds_toArray, List.set_cons_zero, List.set_cons_succ])
  refine wpQuiet_step_h hlq ?_
  clear hlq lq
  intro K lq hlq hK
  refine wanted_go (by rfl) ?_
  refine ⟨?_, fun W hW => ?_, ?_⟩
  rotate_left
  · skip
    go_simp
    with_reducible rfl
  refine hK _ ?_
  clear hK K
  (try simp only [Act.put, List.setIfInBounds_toArray, List.set_cons_zero, List.set_cons_succ])
  refine wpQuiet_step_h hlq ?_
  clear hlq lq
  intro K lq hlq hK
  refine wanted_go (by rfl) ?_
  refine ⟨?_, fun W hW => ?_, ?_⟩
  rotate_left
  · skip
    go_simp
    with_reducible rfl
  refine hK _ ?_
  clear hK K
  (try simp only [Act.put, List.setIfInBounds_toArray, List.set_cons_zero, List.set_cons_succ])
  refine wpQuiet_nil_h hlq ?_
  clear hlq lq B1
  intro V1 hV2
  refine wpList_new rfl rfl rfl rfl z55 rfl (by rfl) (by rfl) (info55 Hp.out.1 _) (sizeP' Hp.out) (pCs_one _ _) ?_
  (try simp only [Act.put, List.setIfInBounds_toArray, List.set_cons_zero, List.set_cons_succ])
  have hB3 : Bz w [(V1.heap.size, oP p), (g, .cells (strs [x, ⟨#[102, 114, 111, 109]⟩, z]).toArray 9), (w.heap.size, oPP zeroPr)] (V1.alloc (oP p)) := hV2.alloc (oP p) rfl
  clear hV2
  refine wpList_quiet (C := Bz w [(V1.heap.size, oP p), (g, .cells (strs [x, ⟨#[102, 114, 111, 109]⟩, z]).toArray 9), (w.heap.size, oPP zeroPr)]) 1 (by rfl) hB3 ?_
  refine wpQuiet_hide ?_
  intro lq hlq
  refine wpQuiet_step_h hlq ?_
  clear hlq lq
  intro K lq hlq hK
  refine wanted_go (by rfl) ?_
  refine ⟨?_, fun W hW => ?_, ?_⟩
  rotate_left
  · skip
    go_simp
    with_reducible rfl
  refine hK _ ?_
  clear hK K
  (try simp only [Act.put, List.setIfInBounds_toArray, List.set_cons_zero, List.set_cons_succ])
  refine wpQuiet_nil_h hlq ?_
  clear hlq lq hB3
  intro V4 hV5
  go_upto_region 5 with (fail)
  go_cut [7] from 32 to 36 (fun x7 W => ∃ g7, x7 = .pointer (some ⟨g7, 0, none⟩) ∧ Bz w [(g7, oPP ⟨p, anyP (pfam p)⟩), (V1.heap.size, oP p), (g, .cells (strs [x, ⟨#[102, 114, 111, 109]⟩, z]).toArray 9), (w.heap.size, oPP zeroPr)] W)
  case first =>
    refine wp_region_held_drew (S := Bz w [(V1.heap.size, oP p), (g, .cells (strs [x, ⟨#[102, 114, 111, 109]⟩, z]).toArray 9), (w.heap.size, oPP zeroPr)]) (by kernel_rfl) (hV5.drew) (fun hHeld => ?_)
    refine wpAnyH_take (i := 0) (oi := { dst := (some 32), op := (Op.load 55 (Operand.tmp 5)), type := 55, pos := "addr.go:281", after := #[], guard := none }) (v := vPf p) rfl (by kernel_rfl) (by kernel_rfl) (by kernel_rfl) (fun _ _ _ h => h) (Or.inl ⟨by rfl, fun W hW => ?_⟩) (by assumption) ?_
    · obtain ⟨q1, q2, q3⟩ := BoxP.run hW.all.1 Hp.out.1
      exact exec_load 55 _ rfl rfl q3
    (try simp only [Act.put, List.setIfInBounds_toArray, List.set_cons_zero, List.set_cons_succ])
    refine wpAnyH_take (i := 1) (oi := { dst := (some 33), op := (Op.load 55 (Operand.tmp 5)), type := 55, pos := "addr.go:281", after := #[], guard := none }) (v := vPf p) rfl (by kernel_rfl) (by kernel_rfl) (by kernel_rfl) (fun _ _ _ h => h) (Or.inl ⟨by rfl, fun W hW => ?_⟩) (by assumption) ?_
    · obtain ⟨q1, q2, q3⟩ := BoxP.run hW.all.1 Hp.out.1
      exact exec_load 55 _ rfl rfl q3
    (try simp only [Act.put, List.setIfInBounds_toArray, List.set_cons_zero, List.set_cons_succ])
    refine wpAnyH_ready (rs := [2, 5]) (by kernel_rfl) (by simp) ?_
    refine AllReadyH.cons (o := { dst := (some 34), op := (Op.call { callee := (Callee.value (Operand.func 54)), args := #[(Operand.tmp 33)], argTypes := #[55] }), type := 3, pos := "addr.go:281", after := #[{ on := 1, ground := Ground.data }], guard := none }) rfl (fun K hK => ?_) (AllReadyH.cons (o := { dst := (some 7), op := (Op.alloc 57), type := 0, pos := "addr.go:281", after := #[], guard := none }) rfl (fun K hK => ?_) AllReadyH.nil)
    · go_simp
      refine (pfam_any Hp.out).mono ?_
      rintro e wA ⟨rfl, bel⟩
      refine hK.out _ _ ?_ (fun hHeld => ?_)
      · exact hHeld.go bel
      clear hK K
      (try simp only [Act.put, List.setIfInBounds_toArray, List.set_cons_zero, List.set_cons_succ])
      refine wpAnyH_ready (rs := [3, 5]) (by kernel_rfl) (by simp) ?_
      refine AllReadyH.cons (o := { dst := (some 35), op := (Op.call { callee := (Callee.value (Operand.func 55)), args := #[(Operand.tmp 34)], argTypes := #[3] }), type := 55, pos := "addr.go:281", after := #[{ on := 2, ground := Ground.data }, { on := 2, ground := Ground.chain }], guard := none }) rfl (fun K hK => ?_) (AllReadyH.cons (o := { dst := (some 7), op := (Op.alloc 57), type := 0, pos := "addr.go:281", after := #[], guard := none }) rfl (fun K hK => ?_) AllReadyH.nil)
      · go_simp
        refine (any_any (pfam p)).mono ?_
        rintro e wB ⟨rfl, bel⟩
        refine hK.out _ _ ?_ (fun hHeld => ?_)
        · exact hHeld.go bel
        clear hK K
        (try simp only [Act.put, List.setIfInBounds_toArray, List.set_cons_zero, List.set_cons_succ])
        refine wpAnyH_take (i := 4) (oi := { dst := (some 36), op := (Op.build 57 #[(0, (Operand.tmp 32)), (1, (Operand.tmp 35))]), type := 57, pos := "addr.go:281", after := #[{ on := 0, ground := Ground.data }, { on := 3, ground := Ground.data }], guard := none }) (v := .agg (pCs p.a p.n ++ pCs (anyP (pfam p)).a (anyP (pfam p)).n).toArray) rfl (by kernel_rfl) (by kernel_rfl) (by kernel_rfl) (fun _ _ _ h => h) (Or.inl ⟨by rfl, fun W hW => ?_⟩) (by assumption) ?_
        · exact exec_build2 (x := .tmp 32) (y := .tmp 35) rfl rfl rfl (built57 Hp.out.1 hq.out.1)
        (try simp only [Act.put, List.setIfInBounds_toArray, List.set_cons_zero, List.set_cons_succ])
        refine wpAnyH_ready (rs := [5]) (by kernel_rfl) (by simp) ?_
        refine AllReadyH.cons (o := { dst := (some 7), op := (Op.alloc 57), type := 0, pos := "addr.go:281", after := #[], guard := none }) rfl (fun K hK => ?_) AllReadyH.nil
        have hZ := hHeld.alloc (oPP zeroPr) rfl
        go_simp
        refine hK.out _ _ ?_ (fun hHeld => ?_)
        · exact hHeld.go ((Below.refl _ _).alloc (Nat.le_refl _) _)
        clear hK K
        (try simp only [Act.put, List.setIfInBounds_toArray, List.set_cons_zero, List.set_cons_succ])
        refine wpAnyH_ready (rs := [6]) (by kernel_rfl) (by simp) ?_
        refine AllReadyH.cons (o := { dst := none, op := (Op.store 57 (Operand.tmp 7) (Operand.tmp 36)), type := 0, pos := "addr.go:281", after := #[{ on := 5, ground := Ground.data }, { on := 4, ground := Ground.data }, { on := 3, ground := Ground.chain }, { on := 0, ground := Ground.phase }, { on := 1, ground := Ground.phase }, { on := 2, ground := Ground.phase }, { on := 3, ground := Ground.phase }, { on := 4, ground := Ground.phase }, { on := 5, ground := Ground.phase }], guard := none }) rfl (fun K hK => ?_) AllReadyH.nil
        have hF := hZ.set 0 rfl (pCs p.a p.n ++ pCs (anyP (pfam p)).a (anyP (pfam p)).n).toArray
        refine wanted_go (by rfl) ?_
        refine wp_store_row 57 (.tmp 7) (.tmp 36) rfl _ _ rfl rfl 57 _ hZ.all.1 (info57 (p := ⟨p, anyP (pfam p)⟩) ⟨Hp.out, hq.out⟩) ((pp_size zeroPr_fit).trans (pp_size (p := ⟨p, anyP (pfam p)⟩) ⟨Hp.out, hq.out⟩).symm) (pp_one ⟨p, anyP (pfam p)⟩) ?_
        refine hK.out _ _ ?_ (fun hHeld => ?_)
        · exact hF.tail
        clear hK K
        (try simp only [Act.put, List.setIfInBounds_toArray, List.set_cons_zero, List.set_cons_succ])
        refine wpAnyH_done (by kernel_rfl) ?_ _
        go_wp2_with fail
        go_meet
        exact ⟨_, rfl, hF⟩
      · have hZ := hHeld.alloc (oPP zeroPr) rfl
        go_simp
        refine hK.out _ _ ?_ (fun hHeld => ?_)
        · exact hHeld.go ((Below.refl _ _).alloc (Nat.le_refl _) _)
        clear hK K
        (try simp only [Act.put, List.setIfInBounds_toArray, List.set_cons_zero, List.set_cons_succ])
        refine wpAnyH_ready (rs := [3]) (by kernel_rfl) (by simp) ?_
        refine AllReadyH.cons (o := { dst := (some 35), op := (Op.call { callee := (Callee.value (Operand.func 55)), args := #[(Operand.tmp 34)], argTypes := #[3] }), type := 55, pos := "addr.go:281", after := #[{ on := 2, ground := Ground.data }, { on := 2, ground := Ground.chain }], guard := none }) rfl (fun K hK => ?_) AllReadyH.nil
        go_simp
        refine (any_any (pfam p)).mono ?_
        rintro e wB ⟨rfl, bel⟩
        replace hZ := hZ.go bel
        refine hK.out _ _ ?_ (fun hHeld => ?_)
        · exact hHeld.go bel
        clear hK K
        (try simp only [Act.put, List.setIfInBounds_toArray, List.set_cons_zero, List.set_cons_succ])
        refine wpAnyH_take (i := 4) (oi := { dst := (some 36), op := (Op.build 57 #[(0, (Operand.tmp 32)), (1, (Operand.tmp 35))]), type := 57, pos := "addr.go:281", after := #[{ on := 0, ground := Ground.data }, { on := 3, ground := Ground.data }], guard := none }) (v := .agg (pCs p.a p.n ++ pCs (anyP (pfam p)).a (anyP (pfam p)).n).toArray) rfl (by kernel_rfl) (by kernel_rfl) (by kernel_rfl) (fun _ _ _ h => h) (Or.inl ⟨by rfl, fun W hW => ?_⟩) (by assumption) ?_
        · exact exec_build2 (x := .tmp 32) (y := .tmp 35) rfl rfl rfl (built57 Hp.out.1 hq.out.1)
        (try simp only [Act.put, List.setIfInBounds_toArray, List.set_cons_zero, List.set_cons_succ])
        refine wpAnyH_ready (rs := [6]) (by kernel_rfl) (by simp) ?_
        refine AllReadyH.cons (o := { dst := none, op := (Op.store 57 (Operand.tmp 7) (Operand.tmp 36)), type := 0, pos := "addr.go:281", after := #[{ on := 5, ground := Ground.data }, { on := 4, ground := Ground.data }, { on := 3, ground := Ground.chain }, { on := 0, ground := Ground.phase }, { on := 1, ground := Ground.phase }, { on := 2, ground := Ground.phase }, { on := 3, ground := Ground.phase }, { on := 4, ground := Ground.phase }, { on := 5, ground := Ground.phase }], guard := none }) rfl (fun K hK => ?_) AllReadyH.nil
        have hF := hZ.set 0 rfl (pCs p.a p.n ++ pCs (anyP (pfam p)).a (anyP (pfam p)).n).toArray
        refine wanted_go (by rfl) ?_
        refine wp_store_row 57 (.tmp 7) (.tmp 36) rfl _ _ rfl rfl 57 _ hZ.all.1 (info57 (p := ⟨p, anyP (pfam p)⟩) ⟨Hp.out, hq.out⟩) ((pp_size zeroPr_fit).trans (pp_size (p := ⟨p, anyP (pfam p)⟩) ⟨Hp.out, hq.out⟩).symm) (pp_one ⟨p, anyP (pfam p)⟩) ?_
        refine hK.out _ _ ?_ (fun hHeld => ?_)
        · exact hF.tail
        clear hK K
        (try simp only [Act.put, List.setIfInBounds_toArray, List.set_cons_zero, List.set_cons_succ])
        refine wpAnyH_done (by kernel_rfl) ?_ _
        go_wp2_with fail
        go_meet
        exact ⟨_, rfl, hF⟩
    · have hZ := hHeld.alloc (oPP zeroPr) rfl
      go_simp
      refine hK.out _ _ ?_ (fun hHeld => ?_)
      · exact hHeld.go ((Below.refl _ _).alloc (Nat.le_refl _) _)
      clear hK K
      (try simp only [Act.put, List.setIfInBounds_toArray, List.set_cons_zero, List.set_cons_succ])
      refine wpAnyH_ready (rs := [2]) (by kernel_rfl) (by simp) ?_
      refine AllReadyH.cons (o := { dst := (some 34), op := (Op.call { callee := (Callee.value (Operand.func 54)), args := #[(Operand.tmp 33)], argTypes := #[55] }), type := 3, pos := "addr.go:281", after := #[{ on := 1, ground := Ground.data }], guard := none }) rfl (fun K hK => ?_) AllReadyH.nil
      go_simp
      refine (pfam_any Hp.out).mono ?_
      rintro e wA ⟨rfl, bel⟩
      replace hZ := hZ.go bel
      refine hK.out _ _ ?_ (fun hHeld => ?_)
      · exact hHeld.go bel
      clear hK K
      (try simp only [Act.put, List.setIfInBounds_toArray, List.set_cons_zero, List.set_cons_succ])
      refine wpAnyH_ready (rs := [3]) (by kernel_rfl) (by simp) ?_
      refine AllReadyH.cons (o := { dst := (some 35), op := (Op.call { callee := (Callee.value (Operand.func 55)), args := #[(Operand.tmp 34)], argTypes := #[3] }), type := 55, pos := "addr.go:281", after := #[{ on := 2, ground := Ground.data }, { on := 2, ground := Ground.chain }], guard := none }) rfl (fun K hK => ?_) AllReadyH.nil
      go_simp
      refine (any_any (pfam p)).mono ?_
      rintro e wB ⟨rfl, bel⟩
      replace hZ := hZ.go bel
      refine hK.out _ _ ?_ (fun hHeld => ?_)
      · exact hHeld.go bel
      clear hK K
      (try simp only [Act.put, List.setIfInBounds_toArray, List.set_cons_zero, List.set_cons_succ])
      refine wpAnyH_take (i := 4) (oi := { dst := (some 36), op := (Op.build 57 #[(0, (Operand.tmp 32)), (1, (Operand.tmp 35))]), type := 57, pos := "addr.go:281", after := #[{ on := 0, ground := Ground.data }, { on := 3, ground := Ground.data }], guard := none }) (v := .agg (pCs p.a p.n ++ pCs (anyP (pfam p)).a (anyP (pfam p)).n).toArray) rfl (by kernel_rfl) (by kernel_rfl) (by kernel_rfl) (fun _ _ _ h => h) (Or.inl ⟨by rfl, fun W hW => ?_⟩) (by assumption) ?_
      · exact exec_build2 (x := .tmp 32) (y := .tmp 35) rfl rfl rfl (built57 Hp.out.1 hq.out.1)
      (try simp only [Act.put, List.setIfInBounds_toArray, List.set_cons_zero, List.set_cons_succ])
      refine wpAnyH_ready (rs := [6]) (by kernel_rfl) (by simp) ?_
      refine AllReadyH.cons (o := { dst := none, op := (Op.store 57 (Operand.tmp 7) (Operand.tmp 36)), type := 0, pos := "addr.go:281", after := #[{ on := 5, ground := Ground.data }, { on := 4, ground := Ground.data }, { on := 3, ground := Ground.chain }, { on := 0, ground := Ground.phase }, { on := 1, ground := Ground.phase }, { on := 2, ground := Ground.phase }, { on := 3, ground := Ground.phase }, { on := 4, ground := Ground.phase }, { on := 5, ground := Ground.phase }], guard := none }) rfl (fun K hK => ?_) AllReadyH.nil
      have hF := hZ.set 0 rfl (pCs p.a p.n ++ pCs (anyP (pfam p)).a (anyP (pfam p)).n).toArray
      refine wanted_go (by rfl) ?_
      refine wp_store_row 57 (.tmp 7) (.tmp 36) rfl _ _ rfl rfl 57 _ hZ.all.1 (info57 (p := ⟨p, anyP (pfam p)⟩) ⟨Hp.out, hq.out⟩) ((pp_size zeroPr_fit).trans (pp_size (p := ⟨p, anyP (pfam p)⟩) ⟨Hp.out, hq.out⟩).symm) (pp_one ⟨p, anyP (pfam p)⟩) ?_
      refine hK.out _ _ ?_ (fun hHeld => ?_)
      · exact hF.tail
      clear hK K
      (try simp only [Act.put, List.setIfInBounds_toArray, List.set_cons_zero, List.set_cons_succ])
      refine wpAnyH_done (by kernel_rfl) ?_ _
      go_wp2_with fail
      go_meet
      exact ⟨_, rfl, hF⟩
  case rest =>
    obtain ⟨g7, rfl, hC⟩ := hcut
    have E7 := hC.env E
    have hcz : wc.cell? ⟨g, 2, none⟩ = some (.string z) := (row_cell (hC.all.get 2 (x := (g, .cells (strs [x, ⟨#[102, 114, 111, 109]⟩, z]).toArray 9)) rfl)).trans rfl
    go_wp2_with (first
      | (refine wpList_store_row rfl 57 (.tmp 2) (.tmp 58) rfl w.heap.size (pCs zeroA 0 ++ pCs zeroA 0).toArray rfl rfl 57 _ (B10.all.get 3 (x := (w.heap.size, oPP zeroPr)) rfl) (info57 zeroPr_fit) rfl (pp_one zeroPr) ?_)
      | (refine wpList_load_mid rfl 57 (.tmp 7) rfl g7 0 rfl (pCs p.a p.n ++ pCs r.a r.n) _ (row_load (B10.all.get 0 (x := (g7, oPP ⟨p, r⟩)) rfl)) Tryz.underlying57 rfl (info57 (p := ⟨p, r⟩) ⟨Hp.out, Hr.out⟩) ?_)
      | (go_at_call 60; refine hchk.mono ?_; rintro e' w10 ⟨rfl, bel10⟩; have B10 := B9.go bel10)
      | (refine wpList_load_mid rfl 57 (.tmp 7) rfl g7 0 rfl (pCs p.a p.n ++ pCs r.a r.n) _ (row_load (B9.all.get 0 (x := (g7, oPP ⟨p, r⟩)) rfl)) Tryz.underlying57 rfl (info57 (p := ⟨p, r⟩) ⟨Hp.out, Hr.out⟩) ?_)
      | (refine wpList_store_src rfl (.tmp 51) (.tmp 49) rfl (g := g7) (q := ⟨p, anyP (pfam p)⟩) (r := r) rfl rfl (B8.all.get 0 (x := (g7, oPP ⟨p, anyP (pfam p)⟩)) rfl) ⟨Hp.out, hq.out⟩ Hr.out ?_; have B9 := (B8.set 0 rfl (pCs p.a p.n ++ pCs r.a r.n).toArray : Bz w [(g7, oPP ⟨p, r⟩), (V1.heap.size, oP p), (g, .cells (strs [x, ⟨#[102, 114, 111, 109]⟩, z]).toArray 9), (w.heap.size, oPP zeroPr)] _))
      | (go_at_call 56; refine (c2 E7).mono ?_; rintro e' w8 ⟨rfl, bel8⟩; have B8 := hC.go bel8))
    refine bodyPost_ret (v := .tuple #[vPP zeroPr, .int .i64 21]) ?_ rfl ⟨rfl, below_row B10.bel (Nat.le_refl _) _⟩
    exact results_cell_tmp rfl _ _ rfl (BoxPP.run (p := zeroPr) (setRow_heap _ _ _ _ _ _ (B10.all.get 3 (x := (w.heap.size, oPP zeroPr)) rfl)) zeroPr_fit).2.2 rfl
set_option maxRecDepth 100000 in
set_option maxHeartbeats 3200000 in
theorem pair_ok3 {w : World} (E : Env w) {s : ByteArray} (hs : s.size < 4294967281) {x z : ByteArray} (hx : x.size < 4294967281) (hz : z.size < 4294967281) (hsp : pieces s ⟨#[32]⟩ = [x, ⟨#[102, 114, 111, 109]⟩, z]) {p : Pf} (hp : p.ok) (hpp : parsePS x = (p, 0)) {r : Pf} (hr : r.ok) (hpr : parsePS z = (r, 0)) (hc : chkPP ⟨p, r⟩ = true) : Calls Tryz.prog 58 #[.string s] w fun e' w' => PairR ⟨p, r⟩ 0 e' ∧ Below w.heap.size w w' := by
  have Hp := Lib.hid hp
  have hq := Lib.hid (any_ok (pfam p))
  have c1 : ∀ {W : World}, Env W → Calls Tryz.prog 56 #[.string x] W fun e' w' => e' = .returned (.tuple #[vPf p, .int .i64 0]) ∧ Below W.heap.size W w' := fun EW => pp_is EW hx hpp
  have B0 := ((Bz.start w).alloc (oPP zeroPr) rfl : Bz w [(w.heap.size, oPP zeroPr)] _)
  have E0 := B0.env E
  clear hpp
  have hchk : ∀ {W : World}, Calls Tryz.prog 60 #[.agg (pCs p.a p.n ++ pCs r.a r.n).toArray] W fun e w' => e = .returned (.int .i64 0) ∧ Below W.heap.size W w' := fun {W} => chkPP_call (p := ⟨p, r⟩) ⟨hp, hr⟩ (by rw [hc]; rfl)
  have Hr := Lib.hid hr
  have c2 : ∀ {W : World}, Env W → Calls Tryz.prog 56 #[.string z] W fun e' w' => e' = .returned (.tuple #[vPf r, .int .i64 0]) ∧ Below W.heap.size W w' := fun EW => pp_is EW hz hpr
  clear hr hpr hc
  go_enter Tryz.func58, Tryz.ntmps58
  go_upto_region 4 with (go_at_call 99; refine (split_op (n := 3) E0 hs (by decide) hsp rfl).mono ?_; rintro e' w1 ⟨⟨g, rfl, hg, hrow⟩, bel⟩; have B1 := B0.more bel hg hrow; have hc1 : w1.cell? ⟨g, 1, none⟩ = some (.string ⟨#[102, 114, 111, 109]⟩) := (row_cell hrow).trans rfl)
  clear hp B0 E0
  go_wp2_with (refine wpList_quiet_take (C := Bz w [(g, .cells (strs [x, ⟨#[102, 114, 111, 109]⟩, z]).toArray 9), (w.heap.size, oPP zeroPr)]) 9 6 (by rfl) B1 ?_)
  (try simp only [List.take_succ_cons, List.take_zero, List.drop_succ_cons, List.drop_zero])
  refine wpQuiet_hide ?_
  intro lq hlq
  refine wpQuiet_step_h hlq ?_
  clear hlq lq
  intro K lq hlq hK
  refine wanted_go (by rfl) ?_
  refine ⟨?_, fun W hW => ?_, ?_⟩
  rotate_left
  · skip
    go_simp
    with_reducible rfl
  refine hK _ ?_
  clear hK K
  (try simp only [Act.put, List.setIfInBounds_toArray, List.set_cons_zero, List.set_cons_succ])
  refine wpQuiet_step_h hlq ?_
  clear hlq lq
  intro K lq hlq hK
  refine wanted_go (by rfl) ?_
  refine ⟨.string x, fun W hW => ?_, ?_⟩
  · skip
    exact quiet_load 9 _ rfl rfl (ldStr (hW.all.get 0 (x := (g, .cells (strs [x, ⟨#[102, 114, 111, 109]⟩, z]).toArray 9)) rfl) 0 rfl)
  refine hK _ ?_
  clear hK K
  (try simp only [Act.put, List.setIfInBounds_toArray, List.set_cons_zero, List.set_cons_succ])
  refine wpQuiet_step_h hlq ?_
  clear hlq lq
  intro K lq hlq hK
  refine wanted_go (by rfl) ?_
  refine ⟨.tuple #[vPf p, .int .i64 0], fun W hW => ?_, ?_⟩
  · go_simp
    have E' := hW.env E
    exact (c1 E').mono fun e W2 hc2 => ⟨hc2.1, hW.go hc2.2⟩
  refine hK _ ?_
  clear hK K
  (try simp only [Act.put, List.setIfInBounds_toArray, List.set_cons_zero, List.set_cons_succ])
  refine wpQuiet_step_h hlq ?_
  clear hlq lq
  intro K lq hlq hK
  refine wanted_go (by rfl) ?_
  refine ⟨?_, fun W hW => ?_, ?_⟩
  rotate_left
  · skip
    go_simp
    with_reducible rfl
  refine hK _ ?_
  clear hK K
  (try simp only [Act.put, List.setIfInBounds_toArray, List.set_cons_zero, List.set_cons_succ])
  refine wpQuiet_step_h hlq ?_
  clear hlq lq
  intro K lq hlq hK
  refine wanted_go (by rfl) ?_
  refine ⟨?_, fun W hW => ?_, ?_⟩
  rotate_left
  · skip
    go_simp
    with_reducible rfl
  refine hK _ ?_
  clear hK K
  (try simp only [Act.put, List.setIfInBounds_toArray, List.set_cons_zero, List.set_cons_succ])
  refine wpQuiet_step_h hlq ?_
  clear hlq lq
  intro K lq hlq hK
  refine wanted_go (by rfl) ?_
  refine ⟨?_, fun W hW => ?_, ?_⟩
  rotate_left
  · skip
    go_simp
    with_reducible rfl
  refine hK _ ?_
  clear hK K
  (try simp only [Act.put, List.setIfInBounds_toArray, List.set_cons_zero, List.set_cons_succ])
  refine wpQuiet_nil_h hlq ?_
  clear hlq lq B1
  intro V1 hV2
  refine wpList_new rfl rfl rfl rfl z55 rfl (by rfl) (by rfl) (info55 Hp.out.1 _) (sizeP' Hp.out) (pCs_one _ _) ?_
  (try simp only [Act.put, List.setIfInBounds_toArray, List.set_cons_zero, List.set_cons_succ])
  have hB3 : Bz w [(V1.heap.size, oP p), (g, .cells (strs [x, ⟨#[102, 114, 111, 109]⟩, z]).toArray 9), (w.heap.size, oPP zeroPr)] (V1.alloc (oP p)) := hV2.alloc (oP p) rfl
  clear hV2
  refine wpList_quiet (C := Bz w [(V1.heap.size, oP p), (g, .cells (strs [x, ⟨#[102, 114, 111, 109]⟩, z]).toArray 9), (w.heap.size, oPP zeroPr)]) 1 (by rfl) hB3 ?_
  refine wpQuiet_hide ?_
  intro lq hlq
  refine wpQuiet_step_h hlq ?_
  clear hlq lq
  intro K lq hlq hK
  refine wanted_go (by rfl) ?_
  refine ⟨?_, fun W hW => ?_, ?_⟩
  rotate_left
  · skip
    go_simp
    with_reducible rfl
  refine hK _ ?_
  clear hK K
  (try simp only [Act.put, List.setIfInBounds_toArray, List.set_cons_zero, List.set_cons_succ])
  refine wpQuiet_nil_h hlq ?_
  clear hlq lq hB3
  intro V4 hV5
  go_upto_region 5 with (fail)
  go_cut [7] from 32 to 36 (fun x7 W => ∃ g7, x7 = .pointer (some ⟨g7, 0, none⟩) ∧ Bz w [(g7, oPP ⟨p, anyP (pfam p)⟩), (V1.heap.size, oP p), (g, .cells (strs [x, ⟨#[102, 114, 111, 109]⟩, z]).toArray 9), (w.heap.size, oPP zeroPr)] W)
  case first =>
    refine wp_region_held_drew (S := Bz w [(V1.heap.size, oP p), (g, .cells (strs [x, ⟨#[102, 114, 111, 109]⟩, z]).toArray 9), (w.heap.size, oPP zeroPr)]) (by kernel_rfl) (hV5.drew) (fun hHeld => ?_)
    refine wpAnyH_take (i := 0) (oi := { dst := (some 32), op := (Op.load 55 (Operand.tmp 5)), type := 55, pos := "addr.go:281", after := #[], guard := none }) (v := vPf p) rfl (by kernel_rfl) (by kernel_rfl) (by kernel_rfl) (fun _ _ _ h => h) (Or.inl ⟨by rfl, fun W hW => ?_⟩) (by assumption) ?_
    · obtain ⟨q1, q2, q3⟩ := BoxP.run hW.all.1 Hp.out.1
      exact exec_load 55 _ rfl rfl q3
    (try simp only [Act.put, List.setIfInBounds_toArray, List.set_cons_zero, List.set_cons_succ])
    refine wpAnyH_take (i := 1) (oi := { dst := (some 33), op := (Op.load 55 (Operand.tmp 5)), type := 55, pos := "addr.go:281", after := #[], guard := none }) (v := vPf p) rfl (by kernel_rfl) (by kernel_rfl) (by kernel_rfl) (fun _ _ _ h => h) (Or.inl ⟨by rfl, fun W hW => ?_⟩) (by assumption) ?_
    · obtain ⟨q1, q2, q3⟩ := BoxP.run hW.all.1 Hp.out.1
      exact exec_load 55 _ rfl rfl q3
    (try simp only [Act.put, List.setIfInBounds_toArray, List.set_cons_zero, List.set_cons_succ])
    refine wpAnyH_ready (rs := [2, 5]) (by kernel_rfl) (by simp) ?_
    refine AllReadyH.cons (o := { dst := (some 34), op := (Op.call { callee := (Callee.value (Operand.func 54)), args := #[(Operand.tmp 33)], argTypes := #[55] }), type := 3, pos := "addr.go:281", after := #[{ on := 1, ground := Ground.data }], guard := none }) rfl (fun K hK => ?_) (AllReadyH.cons (o := { dst := (some 7), op := (Op.alloc 57), type := 0, pos := "addr.go:281", after := #[], guard := none }) rfl (fun K hK => ?_) AllReadyH.nil)
    · go_simp
      refine (pfam_any Hp.out).mono ?_
      rintro e wA ⟨rfl, bel⟩
      refine hK.out _ _ ?_ (fun hHeld => ?_)
      · exact hHeld.go bel
      clear hK K
      (try simp only [Act.put, List.setIfInBounds_toArray, List.set_cons_zero, List.set_cons_succ])
      refine wpAnyH_ready (rs := [3, 5]) (by kernel_rfl) (by simp) ?_
      refine AllReadyH.cons (o := { dst := (some 35), op := (Op.call { callee := (Callee.value (Operand.func 55)), args := #[(Operand.tmp 34)], argTypes := #[3] }), type := 55, pos := "addr.go:281", after := #[{ on := 2, ground := Ground.data }, { on := 2, ground := Ground.chain }], guard := none }) rfl (fun K hK => ?_) (AllReadyH.cons (o := { dst := (some 7), op := (Op.alloc 57), type := 0, pos := "addr.go:281", after := #[], guard := none }) rfl (fun K hK => ?_) AllReadyH.nil)
      · go_simp
        refine (any_any (pfam p)).mono ?_
        rintro e wB ⟨rfl, bel⟩
        refine hK.out _ _ ?_ (fun hHeld => ?_)
        · exact hHeld.go bel
        clear hK K
        (try simp only [Act.put, List.setIfInBounds_toArray, List.set_cons_zero, List.set_cons_succ])
        refine wpAnyH_take (i := 4) (oi := { dst := (some 36), op := (Op.build 57 #[(0, (Operand.tmp 32)), (1, (Operand.tmp 35))]), type := 57, pos := "addr.go:281", after := #[{ on := 0, ground := Ground.data }, { on := 3, ground := Ground.data }], guard := none }) (v := .agg (pCs p.a p.n ++ pCs (anyP (pfam p)).a (anyP (pfam p)).n).toArray) rfl (by kernel_rfl) (by kernel_rfl) (by kernel_rfl) (fun _ _ _ h => h) (Or.inl ⟨by rfl, fun W hW => ?_⟩) (by assumption) ?_
        · exact exec_build2 (x := .tmp 32) (y := .tmp 35) rfl rfl rfl (built57 Hp.out.1 hq.out.1)
        (try simp only [Act.put, List.setIfInBounds_toArray, List.set_cons_zero, List.set_cons_succ])
        refine wpAnyH_ready (rs := [5]) (by kernel_rfl) (by simp) ?_
        refine AllReadyH.cons (o := { dst := (some 7), op := (Op.alloc 57), type := 0, pos := "addr.go:281", after := #[], guard := none }) rfl (fun K hK => ?_) AllReadyH.nil
        have hZ := hHeld.alloc (oPP zeroPr) rfl
        go_simp
        refine hK.out _ _ ?_ (fun hHeld => ?_)
        · exact hHeld.go ((Below.refl _ _).alloc (Nat.le_refl _) _)
        clear hK K
        (try simp only [Act.put, List.setIfInBounds_toArray, List.set_cons_zero, List.set_cons_succ])
        refine wpAnyH_ready (rs := [6]) (by kernel_rfl) (by simp) ?_
        refine AllReadyH.cons (o := { dst := none, op := (Op.store 57 (Operand.tmp 7) (Operand.tmp 36)), type := 0, pos := "addr.go:281", after := #[{ on := 5, ground := Ground.data }, { on := 4, ground := Ground.data }, { on := 3, ground := Ground.chain }, { on := 0, ground := Ground.phase }, { on := 1, ground := Ground.phase }, { on := 2, ground := Ground.phase }, { on := 3, ground := Ground.phase }, { on := 4, ground := Ground.phase }, { on := 5, ground := Ground.phase }], guard := none }) rfl (fun K hK => ?_) AllReadyH.nil
        have hF := hZ.set 0 rfl (pCs p.a p.n ++ pCs (anyP (pfam p)).a (anyP (pfam p)).n).toArray
        refine wanted_go (by rfl) ?_
        refine wp_store_row 57 (.tmp 7) (.tmp 36) rfl _ _ rfl rfl 57 _ hZ.all.1 (info57 (p := ⟨p, anyP (pfam p)⟩) ⟨Hp.out, hq.out⟩) ((pp_size zeroPr_fit).trans (pp_size (p := ⟨p, anyP (pfam p)⟩) ⟨Hp.out, hq.out⟩).symm) (pp_one ⟨p, anyP (pfam p)⟩) ?_
        refine hK.out _ _ ?_ (fun hHeld => ?_)
        · exact hF.tail
        clear hK K
        (try simp only [Act.put, List.setIfInBounds_toArray, List.set_cons_zero, List.set_cons_succ])
        refine wpAnyH_done (by kernel_rfl) ?_ _
        go_wp2_with fail
        go_meet
        exact ⟨_, rfl, hF⟩
      · have hZ := hHeld.alloc (oPP zeroPr) rfl
        go_simp
        refine hK.out _ _ ?_ (fun hHeld => ?_)
        · exact hHeld.go ((Below.refl _ _).alloc (Nat.le_refl _) _)
        clear hK K
        (try simp only [Act.put, List.setIfInBounds_toArray, List.set_cons_zero, List.set_cons_succ])
        refine wpAnyH_ready (rs := [3]) (by kernel_rfl) (by simp) ?_
        refine AllReadyH.cons (o := { dst := (some 35), op := (Op.call { callee := (Callee.value (Operand.func 55)), args := #[(Operand.tmp 34)], argTypes := #[3] }), type := 55, pos := "addr.go:281", after := #[{ on := 2, ground := Ground.data }, { on := 2, ground := Ground.chain }], guard := none }) rfl (fun K hK => ?_) AllReadyH.nil
        go_simp
        refine (any_any (pfam p)).mono ?_
        rintro e wB ⟨rfl, bel⟩
        replace hZ := hZ.go bel
        refine hK.out _ _ ?_ (fun hHeld => ?_)
        · exact hHeld.go bel
        clear hK K
        (try simp only [Act.put, List.setIfInBounds_toArray, List.set_cons_zero, List.set_cons_succ])
        refine wpAnyH_take (i := 4) (oi := { dst := (some 36), op := (Op.build 57 #[(0, (Operand.tmp 32)), (1, (Operand.tmp 35))]), type := 57, pos := "addr.go:281", after := #[{ on := 0, ground := Ground.data }, { on := 3, ground := Ground.data }], guard := none }) (v := .agg (pCs p.a p.n ++ pCs (anyP (pfam p)).a (anyP (pfam p)).n).toArray) rfl (by kernel_rfl) (by kernel_rfl) (by kernel_rfl) (fun _ _ _ h => h) (Or.inl ⟨by rfl, fun W hW => ?_⟩) (by assumption) ?_
        · exact exec_build2 (x := .tmp 32) (y := .tmp 35) rfl rfl rfl (built57 Hp.out.1 hq.out.1)
        (try simp only [Act.put, List.setIfInBounds_toArray, List.set_cons_zero, List.set_cons_succ])
        refine wpAnyH_ready (rs := [6]) (by kernel_rfl) (by simp) ?_
        refine AllReadyH.cons (o := { dst := none, op := (Op.store 57 (Operand.tmp 7) (Operand.tmp 36)), type := 0, pos := "addr.go:281", after := #[{ on := 5, ground := Ground.data }, { on := 4, ground := Ground.data }, { on := 3, ground := Ground.chain }, { on := 0, ground := Ground.phase }, { on := 1, ground := Ground.phase }, { on := 2, ground := Ground.phase }, { on := 3, ground := Ground.phase }, { on := 4, ground := Ground.phase }, { on := 5, ground := Ground.phase }], guard := none }) rfl (fun K hK => ?_) AllReadyH.nil
        have hF := hZ.set 0 rfl (pCs p.a p.n ++ pCs (anyP (pfam p)).a (anyP (pfam p)).n).toArray
        refine wanted_go (by rfl) ?_
        refine wp_store_row 57 (.tmp 7) (.tmp 36) rfl _ _ rfl rfl 57 _ hZ.all.1 (info57 (p := ⟨p, anyP (pfam p)⟩) ⟨Hp.out, hq.out⟩) ((pp_size zeroPr_fit).trans (pp_size (p := ⟨p, anyP (pfam p)⟩) ⟨Hp.out, hq.out⟩).symm) (pp_one ⟨p, anyP (pfam p)⟩) ?_
        refine hK.out _ _ ?_ (fun hHeld => ?_)
        · exact hF.tail
        clear hK K
        (try simp only [Act.put, List.setIfInBounds_toArray, List.set_cons_zero, List.set_cons_succ])
        refine wpAnyH_done (by kernel_rfl) ?_ _
        go_wp2_with fail
        go_meet
        exact ⟨_, rfl, hF⟩
    · have hZ := hHeld.alloc (oPP zeroPr) rfl
      go_simp
      refine hK.out _ _ ?_ (fun hHeld => ?_)
      · exact hHeld.go ((Below.refl _ _).alloc (Nat.le_refl _) _)
      clear hK K
      (try simp only [Act.put, List.setIfInBounds_toArray, List.set_cons_zero, List.set_cons_succ])
      refine wpAnyH_ready (rs := [2]) (by kernel_rfl) (by simp) ?_
      refine AllReadyH.cons (o := { dst := (some 34), op := (Op.call { callee := (Callee.value (Operand.func 54)), args := #[(Operand.tmp 33)], argTypes := #[55] }), type := 3, pos := "addr.go:281", after := #[{ on := 1, ground := Ground.data }], guard := none }) rfl (fun K hK => ?_) AllReadyH.nil
      go_simp
      refine (pfam_any Hp.out).mono ?_
      rintro e wA ⟨rfl, bel⟩
      replace hZ := hZ.go bel
      refine hK.out _ _ ?_ (fun hHeld => ?_)
      · exact hHeld.go bel
      clear hK K
      (try simp only [Act.put, List.setIfInBounds_toArray, List.set_cons_zero, List.set_cons_succ])
      refine wpAnyH_ready (rs := [3]) (by kernel_rfl) (by simp) ?_
      refine AllReadyH.cons (o := { dst := (some 35), op := (Op.call { callee := (Callee.value (Operand.func 55)), args := #[(Operand.tmp 34)], argTypes := #[3] }), type := 55, pos := "addr.go:281", after := #[{ on := 2, ground := Ground.data }, { on := 2, ground := Ground.chain }], guard := none }) rfl (fun K hK => ?_) AllReadyH.nil
      go_simp
      refine (any_any (pfam p)).mono ?_
      rintro e wB ⟨rfl, bel⟩
      replace hZ := hZ.go bel
      refine hK.out _ _ ?_ (fun hHeld => ?_)
      · exact hHeld.go bel
      clear hK K
      (try simp only [Act.put, List.setIfInBounds_toArray, List.set_cons_zero, List.set_cons_succ])
      refine wpAnyH_take (i := 4) (oi := { dst := (some 36), op := (Op.build 57 #[(0, (Operand.tmp 32)), (1, (Operand.tmp 35))]), type := 57, pos := "addr.go:281", after := #[{ on := 0, ground := Ground.data }, { on := 3, ground := Ground.data }], guard := none }) (v := .agg (pCs p.a p.n ++ pCs (anyP (pfam p)).a (anyP (pfam p)).n).toArray) rfl (by kernel_rfl) (by kernel_rfl) (by kernel_rfl) (fun _ _ _ h => h) (Or.inl ⟨by rfl, fun W hW => ?_⟩) (by assumption) ?_
      · exact exec_build2 (x := .tmp 32) (y := .tmp 35) rfl rfl rfl (built57 Hp.out.1 hq.out.1)
      (try simp only [Act.put, List.setIfInBounds_toArray, List.set_cons_zero, List.set_cons_succ])
      refine wpAnyH_ready (rs := [6]) (by kernel_rfl) (by simp) ?_
      refine AllReadyH.cons (o := { dst := none, op := (Op.store 57 (Operand.tmp 7) (Operand.tmp 36)), type := 0, pos := "addr.go:281", after := #[{ on := 5, ground := Ground.data }, { on := 4, ground := Ground.data }, { on := 3, ground := Ground.chain }, { on := 0, ground := Ground.phase }, { on := 1, ground := Ground.phase }, { on := 2, ground := Ground.phase }, { on := 3, ground := Ground.phase }, { on := 4, ground := Ground.phase }, { on := 5, ground := Ground.phase }], guard := none }) rfl (fun K hK => ?_) AllReadyH.nil
      have hF := hZ.set 0 rfl (pCs p.a p.n ++ pCs (anyP (pfam p)).a (anyP (pfam p)).n).toArray
      refine wanted_go (by rfl) ?_
      refine wp_store_row 57 (.tmp 7) (.tmp 36) rfl _ _ rfl rfl 57 _ hZ.all.1 (info57 (p := ⟨p, anyP (pfam p)⟩) ⟨Hp.out, hq.out⟩) ((pp_size zeroPr_fit).trans (pp_size (p := ⟨p, anyP (pfam p)⟩) ⟨Hp.out, hq.out⟩).symm) (pp_one ⟨p, anyP (pfam p)⟩) ?_
      refine hK.out _ _ ?_ (fun hHeld => ?_)
      · exact hF.tail
      clear hK K
      (try simp only [Act.put, List.setIfInBounds_toArray, List.set_cons_zero, List.set_cons_succ])
      refine wpAnyH_done (by kernel_rfl) ?_ _
      go_wp2_with fail
      go_meet
      exact ⟨_, rfl, hF⟩
  case rest =>
    obtain ⟨g7, rfl, hC⟩ := hcut
    have E7 := hC.env E
    have hcz : wc.cell? ⟨g, 2, none⟩ = some (.string z) := (row_cell (hC.all.get 2 (x := (g, .cells (strs [x, ⟨#[102, 114, 111, 109]⟩, z]).toArray 9)) rfl)).trans rfl
    go_wp2_with (first
      | (refine wpList_store_row rfl 57 (.tmp 2) (.tmp 60) rfl w.heap.size (pCs p.a p.n ++ pCs r.a r.n).toArray rfl rfl 57 _ (B10.all.get 3 (x := (w.heap.size, oPP zeroPr)) rfl) (info57 (p := ⟨p, r⟩) ⟨Hp.out, Hr.out⟩) ((pp_size zeroPr_fit).trans (pp_size (p := ⟨p, r⟩) ⟨Hp.out, Hr.out⟩).symm) (pp_one ⟨p, r⟩) ?_)
      | (refine wpList_load_mid rfl 57 (.tmp 7) rfl g7 0 rfl (pCs p.a p.n ++ pCs r.a r.n) _ (row_load (B10.all.get 0 (x := (g7, oPP ⟨p, r⟩)) rfl)) Tryz.underlying57 rfl (info57 (p := ⟨p, r⟩) ⟨Hp.out, Hr.out⟩) ?_)
      | (go_at_call 60; refine hchk.mono ?_; rintro e' w10 ⟨rfl, bel10⟩; have B10 := B9.go bel10)
      | (refine wpList_load_mid rfl 57 (.tmp 7) rfl g7 0 rfl (pCs p.a p.n ++ pCs r.a r.n) _ (row_load (B9.all.get 0 (x := (g7, oPP ⟨p, r⟩)) rfl)) Tryz.underlying57 rfl (info57 (p := ⟨p, r⟩) ⟨Hp.out, Hr.out⟩) ?_)
      | (refine wpList_store_src rfl (.tmp 51) (.tmp 49) rfl (g := g7) (q := ⟨p, anyP (pfam p)⟩) (r := r) rfl rfl (B8.all.get 0 (x := (g7, oPP ⟨p, anyP (pfam p)⟩)) rfl) ⟨Hp.out, hq.out⟩ Hr.out ?_; have B9 := (B8.set 0 rfl (pCs p.a p.n ++ pCs r.a r.n).toArray : Bz w [(g7, oPP ⟨p, r⟩), (V1.heap.size, oP p), (g, .cells (strs [x, ⟨#[102, 114, 111, 109]⟩, z]).toArray 9), (w.heap.size, oPP zeroPr)] _))
      | (go_at_call 56; refine (c2 E7).mono ?_; rintro e' w8 ⟨rfl, bel8⟩; have B8 := hC.go bel8))
    refine bodyPost_ret (v := .tuple #[vPP ⟨p, r⟩, .int .i64 0]) ?_ rfl ⟨rfl, below_row B10.bel (Nat.le_refl _) _⟩
    exact results_cell_tmp rfl _ _ rfl (BoxPP.run (p := ⟨p, r⟩) (setRow_heap _ _ _ _ _ _ (B10.all.get 3 (x := (w.heap.size, oPP zeroPr)) rfl)) ⟨Hp.out, Hr.out⟩).2.2 rfl
set_option maxRecDepth 100000 in
set_option maxHeartbeats 3200000 in
theorem pair_many {w : World} (E : Env w) {s : ByteArray} (hs : s.size < 4294967281) {L : List ByteArray} {n : Nat} (hsp : pieces s ⟨#[32]⟩ = L) (hn : L.length = n) (h1 : n ≠ 1) (h3 : n ≠ 3) : Calls Tryz.prog 58 #[.string s] w fun e' w' => PairR zeroPr 20 e' ∧ Below w.heap.size w w' := by
  have q1 : ((n : Int) == 1) = false := by simp; omega
  have q2 : ((n : Int) == 3) = false := by simp; omega
  have q3 : ((n : Int) != 1) = true := by simp; omega
  have q4 : ((n : Int) != 3) = true := by simp; omega
  have B0 := ((Bz.start w).alloc (oPP zeroPr) rfl : Bz w [(w.heap.size, oPP zeroPr)] _)
  have E0 := B0.env E
  go_enter Tryz.func58, Tryz.ntmps58
  go_wp2_with (first
    | (refine wpList_store_row rfl 57 (.tmp 2) (.tmp 24) rfl w.heap.size (pCs zeroA 0 ++ pCs zeroA 0).toArray rfl rfl 57 _ (B1.all.get 1 (x := (w.heap.size, oPP zeroPr)) rfl) (info57 zeroPr_fit) rfl (pp_one zeroPr) ?_)
    | (go_at_call 99; refine (split_op (l := L) (n := n) E0 hs (by decide) hsp hn).mono ?_; rintro e' w1 ⟨⟨g, rfl, hg, hrow⟩, bel⟩; have B1 := B0.more bel hg hrow))
  refine bodyPost_ret (v := .tuple #[vPP zeroPr, .int .i64 20]) ?_ rfl ⟨rfl, below_row B1.bel (Nat.le_refl _) _⟩
  exact results_cell_tmp rfl _ _ rfl (BoxPP.run (p := zeroPr) (setRow_heap _ _ _ _ _ _ (B1.all.get 1 (x := (w.heap.size, oPP zeroPr)) rfl)) zeroPr_fit).2.2 rfl
set_option maxRecDepth 100000 in
set_option maxHeartbeats 3200000 in
theorem pair_word {w : World} (E : Env w) {s : ByteArray} (hs : s.size < 4294967281) {x y z : ByteArray} (hsp : pieces s ⟨#[32]⟩ = [x, y, z]) (hy : y ≠ ⟨#[102, 114, 111, 109]⟩) : Calls Tryz.prog 58 #[.string s] w fun e' w' => PairR zeroPr 20 e' ∧ Below w.heap.size w w' := by
  have q1 : (y.toList == [102, 114, 111, 109]) = false := by
    rw [beq_eq_false_iff_ne]; intro e; exact hy (ba_eq (by rw [← ByteArray.toList_eq, e]))
  have q2 : (y.toList != [102, 114, 111, 109]) = true := by unfold bne; rw [q1]; rfl
  replace hy := Lib.hid hy
  have B0 := ((Bz.start w).alloc (oPP zeroPr) rfl : Bz w [(w.heap.size, oPP zeroPr)] _)
  have E0 := B0.env E
  go_enter Tryz.func58, Tryz.ntmps58
  go_wp2_with (first
    | (refine wpList_store_row rfl 57 (.tmp 2) (.tmp 24) rfl w.heap.size (pCs zeroA 0 ++ pCs zeroA 0).toArray rfl rfl 57 _ (B1.all.get 1 (x := (w.heap.size, oPP zeroPr)) rfl) (info57 zeroPr_fit) rfl (pp_one zeroPr) ?_)
    | (go_at_call 99; refine (split_op (l := [x, y, z]) (n := 3) E0 hs (by decide) hsp rfl).mono ?_; rintro e' w1 ⟨⟨g, rfl, hg, hrow⟩, bel⟩; have B1 := B0.more bel hg hrow; have hc1 : w1.cell? ⟨g, 1, none⟩ = some (.string y) := (row_cell hrow).trans rfl))
  refine bodyPost_ret (v := .tuple #[vPP zeroPr, .int .i64 20]) ?_ rfl ⟨rfl, below_row B1.bel (Nat.le_refl _) _⟩
  exact results_cell_tmp rfl _ _ rfl (BoxPP.run (p := zeroPr) (setRow_heap _ _ _ _ _ _ (B1.all.get 1 (x := (w.heap.size, oPP zeroPr)) rfl)) zeroPr_fit).2.2 rfl
end Go.Proofs.YtnljjlaececnkaaGreatDoor
/-
  ParsePair of any text, as one answer; what PrintPair lays is read. Condition: the variables hold what their initialisers laid; a text is no longer than memory has room for.
-/
namespace Go.Proofs.YtnljjlaececnkaaGreatDoor
open Go.RowKit
set_option linter.unusedVariables false
set_option linter.unusedSimpArgs false
theorem wf_small {n : Int} (h0 : 0 ≤ n) (h1 : n ≤ 9223372036854775807) : (Lit.int .i64 n).wf = true := by
  exact wf_i64 ⟨by omega, h1⟩
theorem parsePS_ok (s : ByteArray) : (parsePS s).1.ok := by
  unfold parsePS
  split
  · rename_i p hp
    split
    · unfold rawS at hp
      split at hp
      rename_i l r g hcut
      split at hp
      · rename_i n hn
        obtain ⟨n0, n1⟩ := decS_rng hn
        split at hp
        · rename_i a ha
          cases hp
          exact ⟨quadS_ok ha, wf_small (by simp; omega) (by simp; omega)⟩
        · split at hp
          · rename_i a ha
            cases hp
            exact ⟨colS_ok ha, wf_small (by simp; omega) (by simp; omega)⟩
          · cases hp
      · cases hp
    · exact zeroP_ok
  · exact zeroP_ok
theorem parsePS_chk {s : ByteArray} {p : Pf} (h : parsePS s = (p, 0)) : chk p = true := by
  unfold parsePS at h
  split at h
  · split at h
    · rename_i hc
      cases h; exact hc
    · cases h
  · cases h
theorem one_chk {p : Pf} (h : chk p = true) : chkPP ⟨p, anyP (pfam p)⟩ = true := by
  have h4 : chk (anyP 4) = true ∧ pfam (anyP 4) = 4 := by decide +kernel
  have h6 : chk (anyP 6) = true ∧ pfam (anyP 6) = 6 := by decide +kernel
  rcases pfam_or p with e | e
  · unfold chkPP; simp only [e]; rw [h, h4.1, h4.2]; rfl
  · unfold chkPP; simp only [e]; rw [h, h6.1, h6.2]; rfl
def pair1 (x : ByteArray) : Pr × Int := let d := parsePS x; if d.2 = 0 then (⟨d.1, anyP (pfam d.1)⟩, 0) else (zeroPr, d.2)
def pair3 (x z : ByteArray) : Pr × Int :=
  let d := parsePS x; let r := parsePS z
  if d.2 = 0 then (if r.2 = 0 then (if chkPP ⟨d.1, r.1⟩ then (⟨d.1, r.1⟩, 0) else (zeroPr, 21)) else (zeroPr, r.2)) else (zeroPr, d.2)
/-- ParsePair's answer. -/
def parsePPS (s : ByteArray) : Pr × Int :=
  match cutB 32 s with
  | [x] => pair1 x
  | [x, y, z] => if y = fromB then pair3 x z else (zeroPr, 20)
  | _ => (zeroPr, 20)
/-- ParsePair. -/
theorem pair_any {w : World} (E : Env w) {s : ByteArray} (hs : s.size < 4294967281) : Calls Tryz.prog 58 #[.string s] w fun e w' => PairR (parsePPS s).1 (parsePPS s).2 e ∧ Below w.heap.size w w' := by
  have hsz : ∀ t ∈ pieces s ⟨#[32]⟩, t.size < 4294967281 := fun t ht => by have := (pieces_sum 32 s.size s (Nat.le_refl _)).1 t ht; omega
  have hp : pieces s ⟨#[32]⟩ = cutB 32 s := pieces_eq 32 s
  have hm : ∀ L : List ByteArray, pieces s ⟨#[32]⟩ = L → (L.length ≠ 1) → (L.length ≠ 3) → Calls Tryz.prog 58 #[.string s] w fun e w' => PairR zeroPr 20 e ∧ Below w.heap.size w w' := fun L hL h1 h3 => pair_many E hs hL rfl h1 h3
  unfold parsePPS
  rw [← hp]
  generalize hL : pieces s ⟨#[32]⟩ = L at *
  match L with
  | [] => exact hm [] rfl (by simp) (by simp)
  | [x] =>
    have hx := hsz x (by simp)
    obtain ⟨p, e, hpe⟩ : ∃ p e, parsePS x = (p, e) := ⟨_, _, rfl⟩
    have ok := parsePS_ok x
    show Calls _ _ _ _ fun e w' => PairR (pair1 x).1 (pair1 x).2 e ∧ _
    unfold pair1
    rw [hpe] at ok ⊢
    simp only at ok ⊢
    by_cases he : e = 0
    · subst he
      rw [if_pos rfl]
      have hxs : x = s := by
        have h1 : cutB 32 s = [x] := hp.symm
        unfold cutB at h1
        have h2 : cutL 32 s.data.toList = [x.data.toList] := by
          cases hc : cutL 32 s.data.toList with
          | nil => exact absurd hc (cutL_ne _ _)
          | cons a l =>
            rw [hc] at h1
            simp at h1
            obtain ⟨h1, rfl⟩ := h1
            rw [← h1]
        have hn : ∀ c ∈ s.data.toList, c ≠ 32 := by
          intro c hc e
          subst e
          obtain ⟨i, hi, he⟩ := List.mem_iff_getElem.1 hc
          have key : ∀ l : List UInt8, 32 ∈ l → 1 < (cutL 32 l).length := by
            intro l
            induction l with
            | nil => intro h; cases h
            | cons a l ih =>
              intro h
              unfold cutL
              split
              · have := List.length_pos_iff.2 (cutL_ne 32 l); simp; omega
              · rename_i ha
                have := ih ((List.mem_cons.1 h).elim (fun h => absurd h.symm ha) id)
                cases hq : cutL 32 l with
                | nil => rw [hq] at this; simp at this
                | cons b m => rw [hq] at this; simpa [glue] using this
          have := key _ hc
          rw [h2] at this; simp at this
        rw [cutL_miss hn] at h2
        exact ba_eq (List.cons.inj h2).1.symm
      subst hxs
      exact pair_one E hs hL ok hpe (one_chk (parsePS_chk hpe))
    · rw [if_neg he]
      exact pair_err1 E hs hx hL ok hpe he
  | [x, y] => exact hm [x, y] rfl (by simp) (by simp)
  | [x, y, z] =>
    show Calls _ _ _ _ fun e w' => PairR (if y = fromB then pair3 x z else (zeroPr, 20)).1 (if y = fromB then pair3 x z else (zeroPr, 20)).2 e ∧ _
    by_cases hy : y = fromB
    · rw [if_pos hy]
      subst hy
      have hx := hsz x (by simp)
      have hz := hsz z (by simp)
      obtain ⟨p, e, hpe⟩ : ∃ p e, parsePS x = (p, e) := ⟨_, _, rfl⟩
      obtain ⟨r, f, hrf⟩ : ∃ p e, parsePS z = (p, e) := ⟨_, _, rfl⟩
      have ok := parsePS_ok x
      have ok2 := parsePS_ok z
      unfold pair3
      rw [hpe] at ok ⊢
      rw [hrf] at ok2 ⊢
      simp only at ok ok2 ⊢
      by_cases he : e = 0
      · subst he
        rw [if_pos rfl]
        by_cases hf : f = 0
        · subst hf
          rw [if_pos rfl]
          cases hc : chkPP ⟨p, r⟩ with
          | true => exact pair_ok3 E hs hx hz hL ok hpe ok2 hrf hc
          | false => exact pair_err4 E hs hx hz hL ok hpe ok2 hrf hc
        · rw [if_neg hf]
          exact pair_err2 E hs hx hz hL ok hpe ok2 hrf hf
      · rw [if_neg he]
        exact pair_err3 E hs hx hz hL ok hpe he
    · rw [if_neg hy]
      exact pair_word E hs hL hy
  | x :: y :: z :: u :: l => exact hm (x :: y :: z :: u :: l) rfl (by simp) (by simp)
/-! ### what is laid is read -/
theorem cut_one {l : List UInt8} (h : ∀ c ∈ l, c ≠ 32) : cutB 32 ⟨l.toArray⟩ = [⟨l.toArray⟩] := by
  unfold cutB
  rw [List.toList_toArray, cutL_miss h]; rfl
theorem back_pair {q : Pr} (hq : q.fit) (hc : chkPP q = true) : parsePPS ⟨(pairS q).toArray⟩ = (q, 0) := by
  have hc2 := hc
  unfold chkPP at hc2
  simp only [Bool.and_eq_true, decide_eq_true_eq] at hc2
  obtain ⟨⟨h1, h2⟩, h3⟩ := hc2
  have b1 := back_pfx hq.1.1 h1
  have b2 := back_pfx hq.2.1 h2
  have n1 := pfx_nospace (p := q.d) hq.1.1
  have n2 := pfx_nospace (p := q.s) hq.2.1
  cases hs : spec q with
  | false =>
    have hr : pairS q = pfxS q.d := by unfold pairS; rw [hc, hs]; rfl
    have he : q.s = anyP (pfam q.s) := by unfold spec at hs; simpa using hs
    rw [hr]
    unfold parsePPS
    rw [cut_one n1]
    show pair1 _ = _
    unfold pair1
    rw [b1]
    simp only [if_true]
    rw [h3, ← he]
  | true =>
    have hr : pairS q = pfxS q.d ++ 32 :: ([102, 114, 111, 109] ++ 32 :: pfxS q.s) := by unfold pairS; rw [hc, hs]; rfl
    have hcut : cutB 32 ⟨(pairS q).toArray⟩ = [⟨(pfxS q.d).toArray⟩, fromB, ⟨(pfxS q.s).toArray⟩] := by
      unfold cutB
      rw [List.toList_toArray, hr, cutL_at n1, cutL_at (by decide), cutL_miss n2]; rfl
    unfold parsePPS
    rw [hcut]
    show (if fromB = fromB then pair3 _ _ else _) = _
    rw [if_pos rfl]
    unfold pair3
    rw [b1, b2]
    simp only [if_true]
    rw [hc]; rfl
end Go.Proofs.YtnljjlaececnkaaGreatDoor
/-
  What a card's listed variables give the walks; the opening of arguments that are addresses, prefixes, pairs. No condition.
-/
namespace Go.Proofs.YtnljjlaececnkaaGreatDoor
open Go.ChangeShapes Go.WideShapes Go.ChangeAt Go.RowKit
set_option linter.unusedVariables false
set_option linter.unusedSimpArgs false
theorem star_err : "*" ++ "errors.errorString" = "*errors.errorString" := by decide
theorem row354 (u : TypeId) (h : Tryz.prog.typeName? 3 u = some "*errors.errorString") : u = 354 :=
  typeName_ptr_named (nm := "errors.errorString") (by rw [star_err]; kernel_rfl) (by kernel_rfl) (by decide) u (by rw [star_err]; exact h)
theorem c356 : Tryz.prog.cellsOf 356 = 1 := by kernel_rfl
theorem c9' : Tryz.prog.cellsOf 9 = 1 := by kernel_rfl
theorem c5' : Tryz.prog.cellsOf 5 = 1 := by kernel_rfl
def bruijn : List Int := [0, 1, 56, 2, 57, 49, 28, 3, 61, 58, 42, 50, 38, 29, 17, 4, 62, 47, 59, 36, 45, 43, 51, 22, 53, 39, 33, 30, 24, 18, 12, 5, 63, 55, 48, 27, 60, 41, 37, 16, 46, 35, 44, 21, 52, 32, 23, 11, 54, 26, 40, 15, 34, 20, 31, 10, 25, 14, 19, 9, 13, 8, 7, 6]
theorem tab_below {P : Program} {w w' : World} {name : String} {k : IntKind} {zs : List Int} (h : Lib.TabIs P w name k zs) (hb : Below w.heap.size w w') : Lib.TabIs P w' name k zs := by
  unfold Lib.TabIs World.var? at *
  cases hg : P.globalNamed name with
  | none => simp [hg] at h
  | some g =>
    simp only [hg, Option.bind_some] at h ⊢
    have hlt : g < w.heap.size := by
      rcases Nat.lt_or_ge g w.heap.size with h' | h'
      · exact h'
      · simp [Array.getElem?_eq_none h'] at h
    rw [hb.block g hlt]; exact h
theorem EnvC.below {W W' : World} (h : EnvC W) (hb : Below W.heap.size W W') : EnvC W' := by
  have hc : ∀ {b o : Nat} {v : Value}, W.cell? ⟨b, o, none⟩ = some v → W'.cell? ⟨b, o, none⟩ = some v := fun {b o v} hv => by
    rw [hb.cell (p := ⟨b, o, none⟩) (World.block_lt_of_cell? W _ hv)]; exact hv
  obtain ⟨⟨m, h1⟩, ⟨e1, h2, i2⟩, ⟨e2, h3, i3⟩, h4, h5⟩ := h
  exact ⟨⟨m, hc h1⟩, ⟨e1, hc h2, i2⟩, ⟨e2, hc h3, i3⟩, tab_below h4 hb, hc h5⟩
theorem EnvC.env {W : World} (h : EnvC W) : Env W := fun W' hb => h.below hb
theorem envc_of {W : World} (hsh : W.ShapedOpen Tryz.prog) (hL : laidMetH Tryz.prog Rows.addrTreeRow.laid W) : EnvC W := by
  rw [MakeChecks.laidMetH_plain _ _ _ (by kernel_rfl)] at hL
  obtain ⟨m, hm⟩ := cell_of_shapedOpen_int (g := 0) (zero := #[.int .i64 0]) (t := 3) hsh (of_decide_eq_true (by kernel_rfl)) (by kernel_rfl) rfl (by kernel_rfl) (by kernel_rfl) Tryz.underlying3
  have h1 := hL.tail
  have h2 := h1.tail
  have h4 := h2.tail.tail
  have h5 := h4.tail
  have t64 : Lib.TabIs Tryz.prog W "math/bits.deBruijn64tab" .u8 bruijn := Lib.tabIs_of_head (g := 7) (t := 382) (e := 5) (n := 64) (by kernel_rfl) (by kernel_rfl) Tryz.underlying382 Tryz.underlying5 c5' (by kernel_rfl) h1
  have tp : Lib.TabIs Tryz.prog W "internal/strconv.uint64pow10" .u64 Lib.pow10Tab := Lib.tabIs_of_head (g := 3) (t := 324) (e := 161) (n := 20) (by kernel_rfl) (by kernel_rfl) Tryz.underlying324 Tryz.underlying161 (by kernel_rfl) (by kernel_rfl) h2
  obtain ⟨a1, s1, v1, -, -, -⟩ := laid_sentinel h4 (g := 2) (ti := 158) (by kernel_rfl) (by kernel_rfl) Tryz.underlying158 row354 Tryz.underlying354 Tryz.underlying356 rfl rfl Tryz.underlying9 c356 c9'
  obtain ⟨a2, s2, v2, -, -, -⟩ := laid_sentinel h5 (g := 1) (ti := 158) (by kernel_rfl) (by kernel_rfl) Tryz.underlying158 row354 Tryz.underlying354 Tryz.underlying356 rfl rfl Tryz.underlying9 c356 c9'
  have c1 := World.var?_cell (show Tryz.prog.globalNamed "strconv.ErrRange" = some 2 by kernel_rfl) v1 0
  have c2 := World.var?_cell (show Tryz.prog.globalNamed "strconv.ErrSyntax" = some 1 by kernel_rfl) v2 0
  exact ⟨⟨m, hm⟩, ⟨_, by simpa using c2, .inr ⟨_, _, rfl⟩⟩, ⟨_, by simpa using c1, .inr ⟨_, _, rfl⟩⟩, tp, by have := t64.cell (show Tryz.prog.globalNamed "math/bits.deBruijn64tab" = some 7 by kernel_rfl) 15 (by decide); simpa [bruijn] using this⟩
theorem env_of {W : World} (hsh : W.ShapedOpen Tryz.prog) (hL : laidMetH Tryz.prog Rows.addrTreeRow.laid W) : Env W := (envc_of hsh hL).env
/-! ### arguments -/
theorem cell_int {P : Program} {w : World} {r : Reach} {base : Nat} {t : TypeId} {v : Value} {k : IntKind} (ht : P.underlying t = some (.int k)) (h : Cell.okWide P w r base t v) : ∃ n, v = .int k n ∧ k.has n := by
  unfold Cell.okWide at h
  rw [ht] at h
  cases v <;> simp_all [Cell.ok]
/-- A row of cells, each a whole number of its kind. -/
theorem open_cells {P : Program} {w : World} {r : Reach} {base : Nat} {t : TypeId} {cs : Array Value} {ts : List TypeId} {ks : List IntKind} (hts : P.cellTypes P.depth t = some ts) (hk : ts.map P.underlying = ks.map fun k => some (.int k)) (hsz : cs.size = ts.length) (h : Row.okWide P w r base t cs) :
    ∃ xs : List Int, xs.length = ts.length ∧ ∀ (i : Nat) (k : IntKind), ks[i]? = some k → ∃ x, xs[i]? = some x ∧ cs[i]? = some (.int k x) ∧ k.has x := by
  obtain ⟨ts', h1, -, h3⟩ := h
  rw [hts] at h1; cases h1
  have key : ∀ i, i < ts.length → ∃ k x, ks[i]? = some k ∧ cs[i]? = some (.int k x) ∧ k.has x := by
    intro i hi
    obtain ⟨v, hv⟩ : ∃ v, cs[i]? = some v := ⟨_, Array.getElem?_eq_getElem (by omega)⟩
    obtain ⟨u, hu, ho⟩ := h3 i v hv
    rw [Nat.mod_eq_of_lt hi] at hu
    have e := congrArg (fun l => l[i]?) hk
    simp only [List.getElem?_map, hu, Option.map_some] at e
    cases hki : ks[i]? with
    | none => rw [hki] at e; cases e
    | some k =>
      rw [hki] at e
      obtain ⟨x, rfl, hx⟩ := cell_int (Option.some.inj e) ho
      exact ⟨k, x, rfl, hv, hx⟩
  have hl : ks.length = ts.length := by have := congrArg List.length hk; simpa using this.symm
  refine ⟨(List.range ts.length).map fun i => (match cs[i]? with | some (Value.int _ x) => x | _ => (0 : Int)), by simp, fun i k hki => ?_⟩
  have hi : i < ts.length := by have := (List.getElem?_eq_some_iff.1 hki).1; omega
  obtain ⟨k', x, h1, h2, h4⟩ := key i hi
  rw [hki] at h1; cases h1
  exact ⟨x, by simp [hi, h2], h2, h4⟩
theorem has_u8 {x : Int} (h : IntKind.u8.has x) : 0 ≤ x ∧ x < 256 := by
  have e1 : IntKind.u8.min = 0 := rfl
  have e2 : IntKind.u8.max = 255 := rfl
  simp [IntKind.has, e1, e2] at h; omega
theorem rep_get {α : Type} {n i : Nat} (k : α) (h : i < n) : (List.replicate n k)[i]? = some k := by rw [List.getElem?_replicate, if_pos h]
theorem ct42 : Tryz.prog.cellTypes Tryz.prog.depth 42 = some (List.replicate 16 5) := by kernel_rfl
theorem ct55 : Tryz.prog.cellTypes Tryz.prog.depth 55 = some (List.replicate 16 5 ++ [3]) := by kernel_rfl
theorem ct57 : Tryz.prog.cellTypes Tryz.prog.depth 57 = some (List.replicate 16 5 ++ [3] ++ (List.replicate 16 5 ++ [3])) := by kernel_rfl
theorem size42' : Tryz.prog.cellsOf 42 = 16 := by kernel_rfl
theorem arr_eq {cs : Array Value} {l : List Value} (hl : cs.size = l.length) (h : ∀ i, i < l.length → cs[i]? = l[i]?) : cs = l.toArray := by
  apply Array.ext_getElem?
  intro i
  by_cases hi : i < l.length
  · rw [h i hi, List.getElem?_toArray]
  · rw [Array.getElem?_eq_none (by omega), List.getElem?_toArray, List.getElem?_eq_none (by omega)]
section
variable {w : World} {r : Reach} {base : Nat} {v : Value}
set_option maxRecDepth 100000 in
/-- An address that came in. -/
theorem open_A (h : Value.okWide Tryz.prog w r base 42 v) : ∃ a, v = vA a ∧ isA a := by
  unfold Value.okWide at h
  rw [Tryz.underlying42] at h
  obtain ⟨cs, rfl, hsz, hr⟩ := h
  rw [size42'] at hsz
  obtain ⟨xs, hl, hx⟩ := open_cells (ks := List.replicate 16 .u8) ct42 (by simp [Tryz.underlying5]) (by simp [hsz]) hr
  have hg : ∀ i, i < 16 → ∃ x, xs[i]? = some x ∧ cs[i]? = some (.int .u8 x) ∧ IntKind.u8.has x := fun i hi => hx i .u8 (rep_get _ hi)
  have hl' : xs.length = 16 := by simpa using hl
  refine ⟨xs, ?_, hl', fun x hm => ?_⟩
  · unfold vA
    congr 1
    refine arr_eq (by rw [nums_length]; omega) fun i hi => ?_
    rw [nums_length] at hi
    obtain ⟨x, h1, h2, -⟩ := hg i (by omega)
    rw [h2, nums_get h1]
  · obtain ⟨i, hi, rfl⟩ := List.mem_iff_getElem.1 hm
    obtain ⟨x, h1, -, h3⟩ := hg i (by omega)
    rw [List.getElem?_eq_getElem hi] at h1
    rw [Option.some.inj h1]; exact has_u8 h3
theorem has_i64 {x : Int} (h : IntKind.i64.has x) : (Lit.int .i64 x).wf = true := by
  simp [IntKind.has] at h
  simp [Lit.wf]; omega
set_option maxRecDepth 100000 in
/-- The part of a row that is a prefix. -/
theorem open_pf {cs : Array Value} {off : Nat} (h8 : ∀ i, i < 16 → ∃ x, cs[off + i]? = some (.int .u8 x) ∧ IntKind.u8.has x) (hn : ∃ x, cs[off + 16]? = some (.int .i64 x) ∧ IntKind.i64.has x) :
    ∃ p : Pf, p.ok ∧ ∀ j, j < 17 → cs[off + j]? = (pCs p.a p.n)[j]? := by
  obtain ⟨n, hn, hn2⟩ := hn
  have hg : ∀ i, i < 16 → ((List.range 16).map fun i => (match cs[off + i]? with | some (Value.int _ x) => x | _ => (0 : Int)))[i]? = some (match cs[off + i]? with | some (Value.int _ x) => x | _ => (0 : Int)) := fun i hi => by simp [hi]
  refine ⟨⟨(List.range 16).map fun i => (match cs[off + i]? with | some (Value.int _ x) => x | _ => (0 : Int)), n⟩, ⟨⟨by simp, fun x hx => ?_⟩, has_i64 hn2⟩, fun j hj => ?_⟩
  · obtain ⟨i, hi, rfl⟩ := List.mem_map.1 hx
    obtain ⟨y, h1, h2⟩ := h8 i (by simpa using hi)
    rw [h1]; exact has_u8 h2
  · by_cases h16 : j < 16
    · obtain ⟨y, h1, h2⟩ := h8 j h16
      have := hg j h16
      rw [h1] at this ⊢
      exact (pCs_at (p := ⟨_, n⟩) (nums_get (k := .u8) this)).symm
    · obtain rfl : j = 16 := by omega
      rw [hn]
      exact (pCs_get (p := ⟨_, n⟩) ⟨by simp, fun x hx => by
        obtain ⟨i, hi, rfl⟩ := List.mem_map.1 hx
        obtain ⟨y, h1, h2⟩ := h8 i (by simpa using hi)
        rw [h1]; exact has_u8 h2⟩).symm
set_option maxRecDepth 100000 in
/-- A prefix that came in. -/
theorem open_P (h : Value.okWide Tryz.prog w r base 55 v) : ∃ p, v = vPf p ∧ p.ok := by
  unfold Value.okWide at h
  rw [Tryz.underlying55] at h
  obtain ⟨cs, rfl, hsz, hr⟩ := h
  rw [c55] at hsz
  obtain ⟨xs, hl, hx⟩ := open_cells (ks := List.replicate 16 .u8 ++ [.i64]) ct55 (by simp [Tryz.underlying5, Tryz.underlying3]) (by simp [hsz]) hr
  obtain ⟨p, hp, he⟩ := open_pf (cs := cs) (off := 0) (fun i hi => by
      obtain ⟨x, -, h2, h3⟩ := hx i .u8 (by rw [List.getElem?_append_left (by rw [List.length_replicate]; exact hi)]; exact rep_get _ hi)
      exact ⟨x, by simpa using h2, h3⟩) (by
      obtain ⟨x, -, h2, h3⟩ := hx 16 .i64 (by simp)
      exact ⟨x, by simpa using h2, h3⟩)
  refine ⟨p, ?_, hp⟩
  unfold vPf
  congr 1
  refine arr_eq (by rw [pCs_len hp.1]; exact hsz) fun j hj => ?_
  rw [pCs_len hp.1] at hj
  simpa using he j hj
set_option maxRecDepth 100000 in
/-- A pair that came in. -/
theorem open_PP (h : Value.okWide Tryz.prog w r base 57 v) : ∃ p, v = vPP p ∧ p.fit := by
  unfold Value.okWide at h
  rw [Tryz.underlying57] at h
  obtain ⟨cs, rfl, hsz, hr⟩ := h
  rw [c57] at hsz
  obtain ⟨xs, hl, hx⟩ := open_cells (ks := List.replicate 16 .u8 ++ [.i64] ++ (List.replicate 16 .u8 ++ [.i64])) ct57 (by simp [Tryz.underlying5, Tryz.underlying3]) (by simp [hsz]) hr
  obtain ⟨p, hp, he⟩ := open_pf (cs := cs) (off := 0) (fun i hi => by
      obtain ⟨x, -, h2, h3⟩ := hx i .u8 (by rw [List.append_assoc, List.getElem?_append_left (by rw [List.length_replicate]; exact hi)]; exact rep_get _ hi)
      exact ⟨x, by simpa using h2, h3⟩) (by
      obtain ⟨x, -, h2, h3⟩ := hx 16 .i64 (by simp)
      exact ⟨x, by simpa using h2, h3⟩)
  obtain ⟨q, hq, hf⟩ := open_pf (cs := cs) (off := 17) (fun i hi => by
      obtain ⟨x, -, h2, h3⟩ := hx (17 + i) .u8 (by
        have e : (List.replicate 16 IntKind.u8 ++ [IntKind.i64]).length = 17 := rfl
        rw [List.getElem?_append_right (by omega), e, Nat.add_sub_cancel_left, List.getElem?_append_left (by rw [List.length_replicate]; exact hi)]; exact rep_get _ hi)
      exact ⟨x, h2, h3⟩) (by
      obtain ⟨x, -, h2, h3⟩ := hx 33 .i64 (by simp)
      exact ⟨x, by simpa using h2, h3⟩)
  refine ⟨⟨p, q⟩, ?_, hp, hq⟩
  unfold vPP
  congr 1
  refine arr_eq (by rw [List.length_append, pCs_len hp.1, pCs_len hq.1]; exact hsz) fun j hj => ?_
  rw [List.length_append, pCs_len hp.1, pCs_len hq.1] at hj
  by_cases hj17 : j < 17
  · rw [List.getElem?_append_left (by rw [pCs_len hp.1]; exact hj17)]
    simpa using he j hj17
  · rw [List.getElem?_append_right (by rw [pCs_len hp.1]; omega), pCs_len hp.1, ← hf (j - 17) (by omega), show 17 + (j - 17) = j by omega]
end
end Go.Proofs.YtnljjlaececnkaaGreatDoor
/-
  The closed facts on the whole program that each row asks, one declaration each. No condition.
-/
namespace Go.Proofs.YtnljjlaececnkaaGreatDoor
open Go.ChangeShapes Go.WideShapes
set_option linter.unusedVariables false
theorem jf_out : laidOutB Tryz.pinned.checked.prog = true := by kernel_rfl
theorem jf_maps : mapsRowed Tryz.pinned.checked.prog = true := by kernel_rfl
theorem jf_stops : (Tryz.pinned.checked.prog.stops == []) = true := by kernel_rfl
theorem jf_knobs : (Tryz.pinned.checked.prog.stopKnobs == []) = true := by kernel_rfl
theorem jf_keys : (false == Tryz.pinned.checked.prog.plainKeys) = true := by kernel_rfl
theorem jf_heard : Tryz.pinned.checked.prog.stopsHeard = true := by kernel_rfl
theorem jf_enter : Tryz.pinned.checked.prog.mayEnter = true := by kernel_rfl
theorem jf_lift : (Rows.addrTreeRow.lifted == Tryz.pinned.checked.prog.liftsFinal) = true := by kernel_rfl
theorem jf_make : (Tryz.pinned.checked.prog.make == some Rows.addrTreeRow.make) = true := by kernel_rfl
/-! ### of a card -/
theorem jf_main : Tryz.pinned.checked.prog.mainIs = some (true, "11f230a8d8e2c1745f747872d237d21740fd6a16d7af62534ef2deb61fc91356".toList) := by kernel_rfl
theorem jf_looks : true = Tryz.pinned.checked.prog.looks [] := by kernel_rfl
end Go.Proofs.YtnljjlaececnkaaGreatDoor
/-
  The closed facts of a row, out of those of its own and those on the whole program. No condition.
-/
namespace Go.Proofs.YtnljjlaececnkaaGreatDoor
open Go.ChangeShapes Go.WideShapes
set_option linter.unusedVariables false
/-- The closed facts of a row, out of those of its own. -/
theorem joined_gen {P : Program} {f : FuncId} {fn : Func} {s : ChangeSpec} {c : OpenClaim}
    (jf_out : laidOutB P = true) (jf_maps : mapsRowed P = true) (jf_stops : (P.stops == []) = true) (jf_knobs : (P.stopKnobs == []) = true) (k1 : (c.plainKeys == P.plainKeys) = true) (jf_heard : P.stopsHeard = true) (jf_enter : P.mayEnter = true) (k2 : (c.lifted == P.liftsFinal) = true) (k3 : (P.make == some c.make) = true)
    (a1 : c.wf (OpenSpec.ofChange s) = true) (a2 : fn.params.all (P.readableRec ·) = true) (a3 : namedTie P c.named s.vars = true) (a4 : (c.stops == []) = true) (a5 : (c.knobs == []) = true)
    (a6 : (c.inPlace == P.inPlace f) = true) (a7 : (c.unfollowed == P.unfollowed f) = true) (a8 : (c.recurses == P.recurses f) = true) (a9 : (c.named == P.varsNamed f) = true)
    (b1 : (c.maps == (fn.params.toList ++ s.plain.varTypes P).any (P.mapsRec ·)) = true) (b2 : (c.ifaces == (fn.params.toList ++ s.plain.varTypes P).any (P.ifacesRec ·)) = true) (b3 : (c.mapsOut == P.mapsAmong fn.resultTypes.toList) = true)
    (b4 : (c.loops == (fn.params.toList ++ s.plain.varTypes P).any (P.loopsFrom ·)) = true) (b5 : (c.wideKeys == (fn.params.toList ++ s.plain.varTypes P ++ fn.resultTypes.toList).any (P.wideKeysFrom ·)) = true)
    (b6 : s.vars.all (P.varReadable ·) = true) (b7 : fn.resultTypes.all (fun t => P.readableRec t && decide (t < P.types.size)) = true) (b8 : (c.ifacesOut == fn.resultTypes.toList.any (P.ifacesRec ·)) = true) (b9 : (c.loopsOut == fn.resultTypes.toList.any (P.loopsFrom ·)) = true)
    (d1 : c.shortTexts.isNone = true) (d2 : (c.kinds == (if c.domain.isEmpty then [] else fn.params.toList.map fun t => match P.underlying t with | some (.int k) => some k | _ => none)) = true) (d3 : (c.pinned == c.pinnedBy) = true)
    (d4 : (c.veiled == (fn.params.toList ++ s.plain.varTypes P ++ fn.resultTypes.toList).any (P.veiledRec ·)) = true) (d5 : c.veiledFits P fn.params.toList (fn.params.toList ++ s.plain.varTypes P ++ fn.resultTypes.toList) = true) :
    joinedFacts P f fn s c = true := by
  unfold joinedFacts
  rw [a1, jf_out, jf_maps, a2, a3, a4, jf_stops, a5, jf_knobs, a6, a7, a8, a9, b1, b2, b3, b4, b5, b6, b7, b8, b9, k1, d1, jf_heard, jf_enter, k2, k3, d3, d4, d5]
  simp only [Bool.true_and, Bool.and_true]
  exact d2
/-- The closed facts of a row, out of those of its own. -/
theorem joined_of {f : FuncId} {fn : Func} {s : ChangeSpec} {c : OpenClaim}
    (hk : c.plainKeys = false) (hl : c.lifted = Rows.addrTreeRow.lifted) (hm : c.make = Rows.addrTreeRow.make)
    (a1 : c.wf (OpenSpec.ofChange s) = true) (a2 : fn.params.all (Tryz.pinned.checked.prog.readableRec ·) = true) (a3 : namedTie Tryz.pinned.checked.prog c.named s.vars = true) (a4 : (c.stops == []) = true) (a5 : (c.knobs == []) = true)
    (a6 : (c.inPlace == Tryz.pinned.checked.prog.inPlace f) = true) (a7 : (c.unfollowed == Tryz.pinned.checked.prog.unfollowed f) = true) (a8 : (c.recurses == Tryz.pinned.checked.prog.recurses f) = true) (a9 : (c.named == Tryz.pinned.checked.prog.varsNamed f) = true)
    (b1 : (c.maps == (fn.params.toList ++ s.plain.varTypes Tryz.pinned.checked.prog).any (Tryz.pinned.checked.prog.mapsRec ·)) = true) (b2 : (c.ifaces == (fn.params.toList ++ s.plain.varTypes Tryz.pinned.checked.prog).any (Tryz.pinned.checked.prog.ifacesRec ·)) = true) (b3 : (c.mapsOut == Tryz.pinned.checked.prog.mapsAmong fn.resultTypes.toList) = true)
    (b4 : (c.loops == (fn.params.toList ++ s.plain.varTypes Tryz.pinned.checked.prog).any (Tryz.pinned.checked.prog.loopsFrom ·)) = true) (b5 : (c.wideKeys == (fn.params.toList ++ s.plain.varTypes Tryz.pinned.checked.prog ++ fn.resultTypes.toList).any (Tryz.pinned.checked.prog.wideKeysFrom ·)) = true)
    (b6 : s.vars.all (Tryz.pinned.checked.prog.varReadable ·) = true) (b7 : fn.resultTypes.all (fun t => Tryz.pinned.checked.prog.readableRec t && decide (t < Tryz.pinned.checked.prog.types.size)) = true) (b8 : (c.ifacesOut == fn.resultTypes.toList.any (Tryz.pinned.checked.prog.ifacesRec ·)) = true) (b9 : (c.loopsOut == fn.resultTypes.toList.any (Tryz.pinned.checked.prog.loopsFrom ·)) = true)
    (d1 : c.shortTexts.isNone = true) (d2 : (c.kinds == (if c.domain.isEmpty then [] else fn.params.toList.map fun t => match Tryz.pinned.checked.prog.underlying t with | some (.int k) => some k | _ => none)) = true) (d3 : (c.pinned == c.pinnedBy) = true)
    (d4 : (c.veiled == (fn.params.toList ++ s.plain.varTypes Tryz.pinned.checked.prog ++ fn.resultTypes.toList).any (Tryz.pinned.checked.prog.veiledRec ·)) = true) (d5 : c.veiledFits Tryz.pinned.checked.prog fn.params.toList (fn.params.toList ++ s.plain.varTypes Tryz.pinned.checked.prog ++ fn.resultTypes.toList) = true) :
    joinedFacts Tryz.pinned.checked.prog f fn s c = true := by
  have k1 : (c.plainKeys == Tryz.pinned.checked.prog.plainKeys) = true := by rw [hk]; exact jf_keys
  have k2 : (c.lifted == Tryz.pinned.checked.prog.liftsFinal) = true := by rw [hl]; exact jf_lift
  have k3 : (Tryz.pinned.checked.prog.make == some c.make) = true := by rw [hm]; exact jf_make
  exact joined_gen jf_out jf_maps jf_stops jf_knobs k1 jf_heard jf_enter k2 k3 a1 a2 a3 a4 a5 a6 a7 a8 a9 b1 b2 b3 b4 b5 b6 b7 b8 b9 d1 d2 d3 d4 d5
end Go.Proofs.YtnljjlaececnkaaGreatDoor
