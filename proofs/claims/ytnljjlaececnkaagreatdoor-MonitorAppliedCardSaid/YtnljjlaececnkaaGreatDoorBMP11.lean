/-
  Merged texts (DB, DC), part 11 of 12. Conditions: each part's own, told at its head.
-/
import Derived.Test.YtnljjlaececnkaaGreatDoorBMP1
import Derived.Test.YtnljjlaececnkaaGreatDoorBMP2
import Derived.Test.YtnljjlaececnkaaGreatDoorBMP3
import Derived.Test.YtnljjlaececnkaaGreatDoorBMP4
import Derived.Test.YtnljjlaececnkaaGreatDoorBMP5
import Derived.Test.YtnljjlaececnkaaGreatDoorBMP6
import Derived.Test.YtnljjlaececnkaaGreatDoorBMP7
import Derived.Test.YtnljjlaececnkaaGreatDoorBMP8
import Derived.Test.YtnljjlaececnkaaGreatDoorBMP9
import Derived.Test.YtnljjlaececnkaaGreatDoorBMP10
/-
  ParsePair of any text. Condition: the variables hold what their initialisers laid; a text is no longer than memory has room for.
-/
namespace Go.Proofs.YtnljjlaececnkaaGreatDoor
open Go.RowKit
set_option linter.unusedVariables false
set_option linter.unusedSimpArgs false
theorem Bz.more {w W W2 : World} {l : List (Nat × Obj)} (h : Bz w l W) (hb : Below W.heap.size W W2) {g : Nat} {o : Obj} (hg : W.heap.size ≤ g) (ho : W2.heap[g]? = some o) : Bz w ((g, o) :: l) W2 :=
  ⟨(h.go hb).bel, ⟨ho, (h.go hb).all⟩, List.pairwise_cons.2 ⟨fun x hx => Nat.lt_of_lt_of_le (AllB.lt h.all x hx) hg, h.ord⟩, fun x hx => by
    rcases List.mem_cons.1 hx with rfl | hx
    · exact Nat.le_trans h.bel.size hg
    · exact h.low x hx⟩
theorem split_op {w : World} (E : Env w) {s sep : ByteArray} {l : List ByteArray} {n : Nat} (hs : s.size < 4294967281) (h1 : 1 ≤ sep.size) (hl : pieces s sep = l) (hn : l.length = n) :
    Calls Tryz.prog 99 #[.string s, .string sep] w fun e w' => (∃ g, e = .returned (.slice (some ⟨g, 0, none⟩) n n) ∧ w.heap.size ≤ g ∧ w'.heap[g]? = some (.cells (strs l).toArray 9)) ∧ Below w.heap.size w w' :=
  (split_n E hs h1 hl hn).mono fun e w' h => ⟨⟨w.heap.size, h.1, Nat.le_refl _, by rw [h.2]; exact box1 w _⟩, by rw [h.2]; exact (Below.refl _ _).alloc (Nat.le_refl _) _⟩
theorem ldStr {W : World} {g : Nat} {l : List ByteArray} (h : W.heap[g]? = some (.cells (strs l).toArray 9)) (j : Nat) {x : ByteArray} (hx : l[j]? = some x) : (loadVar 9 ⟨g, j, none⟩).run Tryz.prog W = .ok (.string x) W :=
  loadVar_str Tryz.underlying9 ((row_cell h).trans (by rw [List.getElem?_toArray]; unfold strs; rw [List.getElem?_map, hx]; rfl))
theorem setCells_row : ∀ (vs : List Value) (o : Nat) (w : World) (b : Nat) (row : List Value) (t : TypeId), w.heap[b]? = some (.cells row.toArray t) → o + vs.length ≤ row.length → w.setCells b o vs = w.setRow b (row.take o ++ vs ++ row.drop (o + vs.length)).toArray
  | [], o, w, b, row, t, h, hl => by
    simp only [World.setCells, List.append_nil, List.length_nil, Nat.add_zero, List.take_append_drop]
    have this : (w.setRow b row.toArray).heap = w.heap := by
      unfold World.setRow
      apply Array.ext_getElem?
      intro i
      simp only
      rw [Array.getElem?_modify]
      split
      · rename_i e; subst e; rw [h]; rfl
      · rfl
    have e2 : w.setRow b row.toArray = { w with heap := (w.setRow b row.toArray).heap } := rfl
    rw [e2, this]
  | v :: r, o, w, b, row, t, h, hl => by
    have hw1 : (w.setCell ⟨b, o, none⟩ v).heap[b]? = some (.cells (row.set o v).toArray t) := by
      unfold World.setCell
      simp only
      rw [Array.getElem?_modify, if_pos rfl, h]
      simp
    rw [World.setCells, setCells_row r (o + 1) _ b (row.set o v) t hw1 (by rw [List.length_set]; simp at hl; omega)]
    have e : (row.set o v).take (o + 1) ++ r ++ (row.set o v).drop (o + 1 + r.length) = row.take o ++ v :: r ++ row.drop (o + (v :: r).length) := by
      simp at hl
      rw [List.take_succ_eq_append_getElem (by rw [List.length_set]; omega), List.take_set_of_le (by omega), List.getElem_set_self, List.drop_set_of_lt (by omega), List.length_cons, show o + 1 + r.length = o + (r.length + 1) by omega]
      simp
    rw [e]
    unfold World.setRow World.setCell
    simp only
    congr 1
    apply Array.ext_getElem?
    intro i
    rw [Array.getElem?_modify, Array.getElem?_modify, Array.getElem?_modify]
    split
    · rename_i e; subst e; rw [h]; rfl
    · rfl
/-- What ParsePair answers. -/
def PairR (q : Pr) (n : Int) (e : Ending) : Prop := e = .returned (.tuple #[vPP q, .int .i64 n])
def fromB : ByteArray := ⟨#[102, 114, 111, 109]⟩
set_option maxRecDepth 100000 in
set_option maxHeartbeats 3200000 in
theorem pair_err1 {w : World} (E : Env w) {s : ByteArray} (hs : s.size < 4294967281) {x : ByteArray} (hx : x.size < 4294967281) (hsp : pieces s ⟨#[32]⟩ = [x]) {p : Pf} {e : Int} (hp : p.ok) (hpp : parsePS x = (p, e)) (he : e ≠ 0) : Calls Tryz.prog 58 #[.string s] w fun e' w' => PairR zeroPr e e' ∧ Below w.heap.size w w' := by
  have Hp := Lib.hid hp
  have hq := Lib.hid (any_ok (pfam p))
  have c1 : ∀ {W : World}, Env W → Calls Tryz.prog 56 #[.string x] W fun e' w' => e' = .returned (.tuple #[vPf p, .int .i64 e]) ∧ Below W.heap.size W w' := fun EW => pp_is EW hx hpp
  have B0 := ((Bz.start w).alloc (oPP zeroPr) rfl : Bz w [(w.heap.size, oPP zeroPr)] _)
  have E0 := B0.env E
  clear hpp
  have h1 : (e == 0) = false := by simpa using he
  have h2 : (e != 0) = true := by simpa using he
  replace he := Lib.hid he
  go_enter Tryz.func58, Tryz.ntmps58
  go_upto_region 4 with (go_at_call 99; refine (split_op (n := 1) E0 hs (by decide) hsp rfl).mono ?_; rintro e' w1 ⟨⟨g, rfl, hg, hrow⟩, bel⟩; have B1 := B0.more bel hg hrow)
  clear hp B0 E0
  go_wp2_with (refine wpList_quiet_take (C := Bz w [(g, .cells (strs [x]).toArray 9), (w.heap.size, oPP zeroPr)]) 9 6 (by rfl) B1 ?_)
  (try simp only [List.take_succ_cons, List.take_zero, List.drop_succ_cons, List.drop_zero])
  refine wpQuiet_hide ?_
  intro lq hlq
  refine wpQuiet_step_h hlq ?_
  clear hlq lq
  intro K lq hlq hK
  refine wanted_go (by rfl) ?_
  refine ⟨?_, fun W hW => ?_, ?_⟩
  rotate_left
  · skip
    go_simp
    with_reducible rfl
  refine hK _ ?_
  clear hK K
  (try simp only [Act.put, List.setIfInBounds_toArray, List.set_cons_zero, List.set_cons_succ])
  refine wpQuiet_step_h hlq ?_
  clear hlq lq
  intro K lq hlq hK
  refine wanted_go (by rfl) ?_
  refine ⟨.string x, fun W hW => ?_, ?_⟩
  · skip
    exact quiet_load 9 _ rfl rfl (ldStr (hW.all.get 0 (x := (g, .cells (strs [x]).toArray 9)) rfl) 0 rfl)
  refine hK _ ?_
  clear hK K
  (try simp only [Act.put, List.setIfInBounds_toArray, List.set_cons_zero, List.set_cons_succ])
  refine wpQuiet_step_h hlq ?_
  clear hlq lq
  intro K lq hlq hK
  refine wanted_go (by rfl) ?_
  refine ⟨.tuple #[vPf p, .int .i64 e], fun W hW => ?_, ?_⟩
  · go_simp
    have E' := hW.env E
    exact (c1 E').mono fun e W2 hc2 => ⟨hc2.1, hW.go hc2.2⟩
  refine hK _ ?_
  clear hK K
  (try simp only [Act.put, List.setIfInBounds_toArray, List.set_cons_zero, List.set_cons_succ])
  refine wpQuiet_step_h hlq ?_
  clear hlq lq
  intro K lq hlq hK
  refine wanted_go (by rfl) ?_
  refine ⟨?_, fun W hW => ?_, ?_⟩
  rotate_left
  · skip
    go_simp
    with_reducible rfl
  refine hK _ ?_
  clear hK K
  (try simp only [Act.put, List.setIfInBounds_toArray, List.set_cons_zero, List.set_cons_succ])
  refine wpQuiet_step_h hlq ?_
  clear hlq lq
  intro K lq hlq hK
  refine wanted_go (by rfl) ?_
  refine ⟨?_, fun W hW => ?_, ?_⟩
  rotate_left
  · skip
    go_simp
    with_reducible rfl
  refine hK _ ?_
  clear hK K
  (try simp only [Act.put, List.setIfInBounds_toArray, List.set_cons_zero, List.set_cons_succ])
  refine wpQuiet_step_h hlq ?_
  clear hlq lq
  intro K lq hlq hK
  refine wanted_go (by rfl) ?_
  refine ⟨?_, fun W hW => ?_, ?_⟩
  rotate_left
  · skip
    go_simp
    with_reducible rfl
  refine hK _ ?_
  clear hK K
  (try simp only [Act.put, List.setIfInBounds_toArray, List.set_cons_zero, List.set_cons_succ])
  refine wpQuiet_nil_h hlq ?_
  clear hlq lq B1
  intro V1 hV2
  refine wpList_new rfl rfl rfl rfl z55 rfl (by rfl) (by rfl) (info55 Hp.out.1 _) (sizeP' Hp.out) (pCs_one _ _) ?_
  (try simp only [Act.put, List.setIfInBounds_toArray, List.set_cons_zero, List.set_cons_succ])
  have hB3 : Bz w [(V1.heap.size, oP p), (g, .cells (strs [x]).toArray 9), (w.heap.size, oPP zeroPr)] (V1.alloc (oP p)) := hV2.alloc (oP p) rfl
  clear hV2
  refine wpList_quiet (C := Bz w [(V1.heap.size, oP p), (g, .cells (strs [x]).toArray 9), (w.heap.size, oPP zeroPr)]) 1 (by rfl) hB3 ?_
  refine wpQuiet_hide ?_
  intro lq hlq
  refine wpQuiet_step_h hlq ?_
  clear hlq lq
  intro K lq hlq hK
  refine wanted_go (by rfl) ?_
  refine ⟨?_, fun W hW => ?_, ?_⟩
  rotate_left
  · skip
    go_simp
    with_reducible rfl
  refine hK _ ?_
  clear hK K
  (try simp only [Act.put, List.setIfInBounds_toArray, List.set_cons_zero, List.set_cons_succ])
  refine wpQuiet_nil_h hlq ?_
  clear hlq lq hB3
  intro V4 hV5
  go_upto_region 5 with (fail)
  go_cut [7] from 32 to 36 (fun x7 W => ∃ g7, x7 = .pointer (some ⟨g7, 0, none⟩) ∧ Bz w [(g7, oPP ⟨p, anyP (pfam p)⟩), (V1.heap.size, oP p), (g, .cells (strs [x]).toArray 9), (w.heap.size, oPP zeroPr)] W)
  case first =>
    refine wp_region_held_drew (S := Bz w [(V1.heap.size, oP p), (g, .cells (strs [x]).toArray 9), (w.heap.size, oPP zeroPr)]) (by kernel_rfl) (hV5.drew) (fun hHeld => ?_)
    refine wpAnyH_take (i := 0) (oi := { dst := (some 32), op := (Op.load 55 (Operand.tmp 5)), type := 55, pos := "addr.go:281", after := #[], guard := none }) (v := vPf p) rfl (by kernel_rfl) (by kernel_rfl) (by kernel_rfl) (fun _ _ _ h => h) (Or.inl ⟨by rfl, fun W hW => ?_⟩) (by assumption) ?_
    · obtain ⟨q1, q2, q3⟩ := BoxP.run hW.all.1 Hp.out.1
      exact exec_load 55 _ rfl rfl q3
    (try simp only [Act.put, List.setIfInBounds_toArray, List.set_cons_zero, List.set_cons_succ])
    refine wpAnyH_take (i := 1) (oi := { dst := (some 33), op := (Op.load 55 (Operand.tmp 5)), type := 55, pos := "addr.go:281", after := #[], guard := none }) (v := vPf p) rfl (by kernel_rfl) (by kernel_rfl) (by kernel_rfl) (fun _ _ _ h => h) (Or.inl ⟨by rfl, fun W hW => ?_⟩) (by assumption) ?_
    · obtain ⟨q1, q2, q3⟩ := BoxP.run hW.all.1 Hp.out.1
      exact exec_load 55 _ rfl rfl q3
    (try simp only [Act.put, List.setIfInBounds_toArray, List.set_cons_zero, List.set_cons_succ])
    refine wpAnyH_ready (rs := [2, 5]) (by kernel_rfl) (by simp) ?_
    refine AllReadyH.cons (o := { dst := (some 34), op := (Op.call { callee := (Callee.value (Operand.func 54)), args := #[(Operand.tmp 33)], argTypes := #[55] }), type := 3, pos := "addr.go:281", after := #[{ on := 1, ground := Ground.data }], guard := none }) rfl (fun K hK => ?_) (AllReadyH.cons (o := { dst := (some 7), op := (Op.alloc 57), type := 0, pos := "addr.go:281", after := #[], guard := none }) rfl (fun K hK => ?_) AllReadyH.nil)
    · go_simp
      refine (pfam_any Hp.out).mono ?_
      rintro e wA ⟨rfl, bel⟩
      refine hK.out _ _ ?_ (fun hHeld => ?_)
      · exact hHeld.go bel
      clear hK K
      (try simp only [Act.put, List.setIfInBounds_toArray, List.set_cons_zero, List.set_cons_succ])
      refine wpAnyH_ready (rs := [3, 5]) (by kernel_rfl) (by simp) ?_
      refine AllReadyH.cons (o := { dst := (some 35), op := (Op.call { callee := (Callee.value (Operand.func 55)), args := #[(Operand.tmp 34)], argTypes := #[3] }), type := 55, pos := "addr.go:281", after := #[{ on := 2, ground := Ground.data }, { on := 2, ground := Ground.chain }], guard := none }) rfl (fun K hK => ?_) (AllReadyH.cons (o := { dst := (some 7), op := (Op.alloc 57), type := 0, pos := "addr.go:281", after := #[], guard := none }) rfl (fun K hK => ?_) AllReadyH.nil)
      · go_simp
        refine (any_any (pfam p)).mono ?_
        rintro e wB ⟨rfl, bel⟩
        refine hK.out _ _ ?_ (fun hHeld => ?_)
        · exact hHeld.go bel
        clear hK K
        (try simp only [Act.put, List.setIfInBounds_toArray, List.set_cons_zero, List.set_cons_succ])
        refine wpAnyH_take (i := 4) (oi := { dst := (some 36), op := (Op.build 57 #[(0, (Operand.tmp 32)), (1, (Operand.tmp 35))]), type := 57, pos := "addr.go:281", after := #[{ on := 0, ground := Ground.data }, { on := 3, ground := Ground.data }], guard := none }) (v := .agg (pCs p.a p.n ++ pCs (anyP (pfam p)).a (anyP (pfam p)).n).toArray) rfl (by kernel_rfl) (by kernel_rfl) (by kernel_rfl) (fun _ _ _ h => h) (Or.inl ⟨by rfl, fun W hW => ?_⟩) (by assumption) ?_
        · exact exec_build2 (x := .tmp 32) (y := .tmp 35) rfl rfl rfl (built57 Hp.out.1 hq.out.1)
        (try simp only [Act.put, List.setIfInBounds_toArray, List.set_cons_zero, List.set_cons_succ])
        refine wpAnyH_ready (rs := [5]) (by kernel_rfl) (by simp) ?_
        refine AllReadyH.cons (o := { dst := (some 7), op := (Op.alloc 57), type := 0, pos := "addr.go:281", after := #[], guard := none }) rfl (fun K hK => ?_) AllReadyH.nil
        have hZ := hHeld.alloc (oPP zeroPr) rfl
        go_simp
        refine hK.out _ _ ?_ (fun hHeld => ?_)
        · exact hHeld.go ((Below.refl _ _).alloc (Nat.le_refl _) _)
        clear hK K
        (try simp only [Act.put, List.setIfInBounds_toArray, List.set_cons_zero, List.set_cons_succ])
        refine wpAnyH_ready (rs := [6]) (by kernel_rfl) (by simp) ?_
        refine AllReadyH.cons (o := { dst := none, op := (Op.store 57 (Operand.tmp 7) (Operand.tmp 36)), type := 0, pos := "addr.go:281", after := #[{ on := 5, ground := Ground.data }, { on := 4, ground := Ground.data }, { on := 3, ground := Ground.chain }, { on := 0, ground := Ground.phase }, { on := 1, ground := Ground.phase }, { on := 2, ground := Ground.phase }, { on := 3, ground := Ground.phase }, { on := 4, ground := Ground.phase }, { on := 5, ground := Ground.phase }], guard := none }) rfl (fun K hK => ?_) AllReadyH.nil
        have hF := hZ.set 0 rfl (pCs p.a p.n ++ pCs (anyP (pfam p)).a (anyP (pfam p)).n).toArray
        refine wanted_go (by rfl) ?_
        refine wp_store_row 57 (.tmp 7) (.tmp 36) rfl _ _ rfl rfl 57 _ hZ.all.1 (info57 (p := ⟨p, anyP (pfam p)⟩) ⟨Hp.out, hq.out⟩) ((pp_size zeroPr_fit).trans (pp_size (p := ⟨p, anyP (pfam p)⟩) ⟨Hp.out, hq.out⟩).symm) (pp_one ⟨p, anyP (pfam p)⟩) ?_
        refine hK.out _ _ ?_ (fun hHeld => ?_)
        · exact hF.tail
        clear hK K
        (try simp only [Act.put, List.setIfInBounds_toArray, List.set_cons_zero, List.set_cons_succ])
        refine wpAnyH_done (by kernel_rfl) ?_ _
        go_wp2_with fail
        go_meet
        exact ⟨_, rfl, hF⟩
      · have hZ := hHeld.alloc (oPP zeroPr) rfl
        go_simp
        refine hK.out _ _ ?_ (fun hHeld => ?_)
        · exact hHeld.go ((Below.refl _ _).alloc (Nat.le_refl _) _)
        clear hK K
        (try simp only [Act.put, List.setIfInBounds_toArray, List.set_cons_zero, List.set_cons_succ])
        refine wpAnyH_ready (rs := [3]) (by kernel_rfl) (by simp) ?_
        refine AllReadyH.cons (o := { dst := (some 35), op := (Op.call { callee := (Callee.value (Operand.func 55)), args := #[(Operand.tmp 34)], argTypes := #[3] }), type := 55, pos := "addr.go:281", after := #[{ on := 2, ground := Ground.data }, { on := 2, ground := Ground.chain }], guard := none }) rfl (fun K hK => ?_) AllReadyH.nil
        go_simp
        refine (any_any (pfam p)).mono ?_
        rintro e wB ⟨rfl, bel⟩
        replace hZ := hZ.go bel
        refine hK.out _ _ ?_ (fun hHeld => ?_)
        · exact hHeld.go bel
        clear hK K
        (try simp only [Act.put, List.setIfInBounds_toArray, List.set_cons_zero, List.set_cons_succ])
        refine wpAnyH_take (i := 4) (oi := { dst := (some 36), op := (Op.build 57 #[(0, (Operand.tmp 32)), (1, (Operand.tmp 35))]), type := 57, pos := "addr.go:281", after := #[{ on := 0, ground := Ground.data }, { on := 3, ground := Ground.data }], guard := none }) (v := .agg (pCs p.a p.n ++ pCs (anyP (pfam p)).a (anyP (pfam p)).n).toArray) rfl (by kernel_rfl) (by kernel_rfl) (by kernel_rfl) (fun _ _ _ h => h) (Or.inl ⟨by rfl, fun W hW => ?_⟩) (by assumption) ?_
        · exact exec_build2 (x := .tmp 32) (y := .tmp 35) rfl rfl rfl (built57 Hp.out.1 hq.out.1)
        (try simp only [Act.put, List.setIfInBounds_toArray, List.set_cons_zero, List.set_cons_succ])
        refine wpAnyH_ready (rs := [6]) (by kernel_rfl) (by simp) ?_
        refine AllReadyH.cons (o := { dst := none, op := (Op.store 57 (Operand.tmp 7) (Operand.tmp 36)), type := 0, pos := "addr.go:281", after := #[{ on := 5, ground := Ground.data }, { on := 4, ground := Ground.data }, { on := 3, ground := Ground.chain }, { on := 0, ground := Ground.phase }, { on := 1, ground := Ground.phase }, { on := 2, ground := Ground.phase }, { on := 3, ground := Ground.phase }, { on := 4, ground := Ground.phase }, { on := 5, ground := Ground.phase }], guard := none }) rfl (fun K hK => ?_) AllReadyH.nil
        have hF := hZ.set 0 rfl (pCs p.a p.n ++ pCs (anyP (pfam p)).a (anyP (pfam p)).n).toArray
        refine wanted_go (by rfl) ?_
        refine wp_store_row 57 (.tmp 7) (.tmp 36) rfl _ _ rfl rfl 57 _ hZ.all.1 (info57 (p := ⟨p, anyP (pfam p)⟩) ⟨Hp.out, hq.out⟩) ((pp_size zeroPr_fit).trans (pp_size (p := ⟨p, anyP (pfam p)⟩) ⟨Hp.out, hq.out⟩).symm) (pp_one ⟨p, anyP (pfam p)⟩) ?_
        refine hK.out _ _ ?_ (fun hHeld => ?_)
        · exact hF.tail
        clear hK K
        (try simp only [Act.put, List.setIfInBounds_toArray, List.set_cons_zero, List.set_cons_succ])
        refine wpAnyH_done (by kernel_rfl) ?_ _
        go_wp2_with fail
        go_meet
        exact ⟨_, rfl, hF⟩
    · have hZ := hHeld.alloc (oPP zeroPr) rfl
      go_simp
      refine hK.out _ _ ?_ (fun hHeld => ?_)
      · exact hHeld.go ((Below.refl _ _).alloc (Nat.le_refl _) _)
      clear hK K
      (try simp only [Act.put, List.setIfInBounds_toArray, List.set_cons_zero, List.set_cons_succ])
      refine wpAnyH_ready (rs := [2]) (by kernel_rfl) (by simp) ?_
      refine AllReadyH.cons (o := { dst := (some 34), op := (Op.call { callee := (Callee.value (Operand.func 54)), args := #[(Operand.tmp 33)], argTypes := #[55] }), type := 3, pos := "addr.go:281", after := #[{ on := 1, ground := Ground.data }], guard := none }) rfl (fun K hK => ?_) AllReadyH.nil
      go_simp
      refine (pfam_any Hp.out).mono ?_
      rintro e wA ⟨rfl, bel⟩
      replace hZ := hZ.go bel
      refine hK.out _ _ ?_ (fun hHeld => ?_)
      · exact hHeld.go bel
      clear hK K
      (try simp only [Act.put, List.setIfInBounds_toArray, List.set_cons_zero, List.set_cons_succ])
      refine wpAnyH_ready (rs := [3]) (by kernel_rfl) (by simp) ?_
      refine AllReadyH.cons (o := { dst := (some 35), op := (Op.call { callee := (Callee.value (Operand.func 55)), args := #[(Operand.tmp 34)], argTypes := #[3] }), type := 55, pos := "addr.go:281", after := #[{ on := 2, ground := Ground.data }, { on := 2, ground := Ground.chain }], guard := none }) rfl (fun K hK => ?_) AllReadyH.nil
      go_simp
      refine (any_any (pfam p)).mono ?_
      rintro e wB ⟨rfl, bel⟩
      replace hZ := hZ.go bel
      refine hK.out _ _ ?_ (fun hHeld => ?_)
      · exact hHeld.go bel
      clear hK K
      (try simp only [Act.put, List.setIfInBounds_toArray, List.set_cons_zero, List.set_cons_succ])
      refine wpAnyH_take (i := 4) (oi := { dst := (some 36), op := (Op.build 57 #[(0, (Operand.tmp 32)), (1, (Operand.tmp 35))]), type := 57, pos := "addr.go:281", after := #[{ on := 0, ground := Ground.data }, { on := 3, ground := Ground.data }], guard := none }) (v := .agg (pCs p.a p.n ++ pCs (anyP (pfam p)).a (anyP (pfam p)).n).toArray) rfl (by kernel_rfl) (by kernel_rfl) (by kernel_rfl) (fun _ _ _ h => h) (Or.inl ⟨by rfl, fun W hW => ?_⟩) (by assumption) ?_
      · exact exec_build2 (x := .tmp 32) (y := .tmp 35) rfl rfl rfl (built57 Hp.out.1 hq.out.1)
      (try simp only [Act.put, List.setIfInBounds_toArray, List.set_cons_zero, List.set_cons_succ])
      refine wpAnyH_ready (rs := [6]) (by kernel_rfl) (by simp) ?_
      refine AllReadyH.cons (o := { dst := none, op := (Op.store 57 (Operand.tmp 7) (Operand.tmp 36)), type := 0, pos := "addr.go:281", after := #[{ on := 5, ground := Ground.data }, { on := 4, ground := Ground.data }, { on := 3, ground := Ground.chain }, { on := 0, ground := Ground.phase }, { on := 1, ground := Ground.phase }, { on := 2, ground := Ground.phase }, { on := 3, ground := Ground.phase }, { on := 4, ground := Ground.phase }, { on := 5, ground := Ground.phase }], guard := none }) rfl (fun K hK => ?_) AllReadyH.nil
      have hF := hZ.set 0 rfl (pCs p.a p.n ++ pCs (anyP (pfam p)).a (anyP (pfam p)).n).toArray
      refine wanted_go (by rfl) ?_
      refine wp_store_row 57 (.tmp 7) (.tmp 36) rfl _ _ rfl rfl 57 _ hZ.all.1 (info57 (p := ⟨p, anyP (pfam p)⟩) ⟨Hp.out, hq.out⟩) ((pp_size zeroPr_fit).trans (pp_size (p := ⟨p, anyP (pfam p)⟩) ⟨Hp.out, hq.out⟩).symm) (pp_one ⟨p, anyP (pfam p)⟩) ?_
      refine hK.out _ _ ?_ (fun hHeld => ?_)
      · exact hF.tail
      clear hK K
      (try simp only [Act.put, List.setIfInBounds_toArray, List.set_cons_zero, List.set_cons_succ])
      refine wpAnyH_done (by kernel_rfl) ?_ _
      go_wp2_with fail
      go_meet
      exact ⟨_, rfl, hF⟩
  case rest =>
    obtain ⟨g7, rfl, hC⟩ := hcut
    have hZ0 := hC.all.get 3 (x := (w.heap.size, oPP zeroPr)) rfl
    go_wp2_with (refine wpList_store_row rfl 57 (.tmp 2) (.tmp 58) rfl w.heap.size (pCs zeroA 0 ++ pCs zeroA 0).toArray rfl rfl 57 _ hZ0 (info57 zeroPr_fit) rfl (pp_one zeroPr) ?_)
    refine bodyPost_ret (v := .tuple #[vPP zeroPr, .int .i64 e]) ?_ rfl ⟨rfl, below_row hC.bel (Nat.le_refl _) _⟩
    exact results_cell_tmp rfl _ _ rfl (BoxPP.run (p := zeroPr) (setRow_heap _ _ _ _ _ _ hZ0) zeroPr_fit).2.2 rfl
set_option maxRecDepth 100000 in
set_option maxHeartbeats 3200000 in
theorem pair_err3 {w : World} (E : Env w) {s : ByteArray} (hs : s.size < 4294967281) {x z : ByteArray} (hx : x.size < 4294967281) (hz : z.size < 4294967281) (hsp : pieces s ⟨#[32]⟩ = [x, ⟨#[102, 114, 111, 109]⟩, z]) {p : Pf} {e : Int} (hp : p.ok) (hpp : parsePS x = (p, e)) (he : e ≠ 0) : Calls Tryz.prog 58 #[.string s] w fun e' w' => PairR zeroPr e e' ∧ Below w.heap.size w w' := by
  have Hp := Lib.hid hp
  have hq := Lib.hid (any_ok (pfam p))
  have c1 : ∀ {W : World}, Env W → Calls Tryz.prog 56 #[.string x] W fun e' w' => e' = .returned (.tuple #[vPf p, .int .i64 e]) ∧ Below W.heap.size W w' := fun EW => pp_is EW hx hpp
  have B0 := ((Bz.start w).alloc (oPP zeroPr) rfl : Bz w [(w.heap.size, oPP zeroPr)] _)
  have E0 := B0.env E
  clear hpp
  have h1 : (e == 0) = false := by simpa using he
  have h2 : (e != 0) = true := by simpa using he
  replace he := Lib.hid he
  go_enter Tryz.func58, Tryz.ntmps58
  go_upto_region 4 with (go_at_call 99; refine (split_op (n := 3) E0 hs (by decide) hsp rfl).mono ?_; rintro e' w1 ⟨⟨g, rfl, hg, hrow⟩, bel⟩; have B1 := B0.more bel hg hrow; have hc1 : w1.cell? ⟨g, 1, none⟩ = some (.string ⟨#[102, 114, 111, 109]⟩) := (row_cell hrow).trans rfl)
  clear hp B0 E0
  go_wp2_with (refine wpList_quiet_take (C := Bz w [(g, .cells (strs [x, ⟨#[102, 114, 111, 109]⟩, z]).toArray 9), (w.heap.size, oPP zeroPr)]) 9 6 (by rfl) B1 ?_)
  (try simp only [List.take_succ_cons, List.take_zero, List.drop_succ_cons, List.drop_zero])
  refine wpQuiet_hide ?_
  intro lq hlq
  refine wpQuiet_step_h hlq ?_
  clear hlq lq
  intro K lq hlq hK
  refine wanted_go (by rfl) ?_
  refine ⟨?_, fun W hW => ?_, ?_⟩
  rotate_left
  · skip
    go_simp
    with_reducible rfl
  refine hK _ ?_
  clear hK K
  (try simp only [Act.put, List.setIfInBounds_toArray, List.set_cons_zero, List.set_cons_succ])
  refine wpQuiet_step_h hlq ?_
  clear hlq lq
  intro K lq hlq hK
  refine wanted_go (by rfl) ?_
  refine ⟨.string x, fun W hW => ?_, ?_⟩
  · skip
    exact quiet_load 9 _ rfl rfl (ldStr (hW.all.get 0 (x := (g, .cells (strs [x, ⟨#[102, 114, 111, 109]⟩, z]).toArray 9)) rfl) 0 rfl)
  refine hK _ ?_
  clear hK K
  (try simp only [Act.put, List.setIfInBounds_toArray, List.set_cons_zero, List.set_cons_succ])
  refine wpQuiet_step_h hlq ?_
  clear hlq lq
  intro K lq hlq hK
  refine wanted_go (by rfl) ?_
  refine ⟨.tuple #[vPf p, .int .i64 e], fun W hW => ?_, ?_⟩
  · go_simp
    have E' := hW.env E
    exact (c1 E').mono fun e W2 hc2 => ⟨hc2.1, hW.go hc2.2⟩
  refine hK _ ?_
  clear hK K
  (try simp only [Act.put, List.setIfInBounds_toArray, List.set_cons_zero, List.set_cons_succ])
  refine wpQuiet_step_h hlq ?_
  clear hlq lq
  intro K lq hlq hK
  refine wanted_go (by rfl) ?_
  refine ⟨?_, fun W hW => ?_, ?_⟩
  rotate_left
  · skip
    go_simp
    with_reducible rfl
  refine hK _ ?_
  clear hK K
  (try simp only [Act.put, List.setIfInBounds_toArray, List.set_cons_zero, List.set_cons_succ])
  refine wpQuiet_step_h hlq ?_
  clear hlq lq
  intro K lq hlq hK
  refine wanted_go (by rfl) ?_
  refine ⟨?_, fun W hW => ?_, ?_⟩
  rotate_left
  · skip
    go_simp
    with_reducible rfl
  refine hK _ ?_
  clear hK K
  (try simp only [Act.put, List.setIfInBounds_toArray, List.set_cons_zero, List.set_cons_succ])
  refine wpQuiet_step_h hlq ?_
  clear hlq lq
  intro K lq hlq hK
  refine wanted_go (by rfl) ?_
  refine ⟨?_, fun W hW => ?_, ?_⟩
  rotate_left
  · skip
    go_simp
    with_reducible rfl
  refine hK _ ?_
  clear hK K
  (try simp only [Act.put, List.setIfInBounds_toArray, List.set_cons_zero, List.set_cons_succ])
  refine wpQuiet_nil_h hlq ?_
  clear hlq lq B1
  intro V1 hV2
  refine wpList_new rfl rfl rfl rfl z55 rfl (by rfl) (by rfl) (info55 Hp.out.1 _) (sizeP' Hp.out) (pCs_one _ _) ?_
  (try simp only [Act.put, List.setIfInBounds_toArray, List.set_cons_zero, List.set_cons_succ])
  have hB3 : Bz w [(V1.heap.size, oP p), (g, .cells (strs [x, ⟨#[102, 114, 111, 109]⟩, z]).toArray 9), (w.heap.size, oPP zeroPr)] (V1.alloc (oP p)) := hV2.alloc (oP p) rfl
  clear hV2
  refine wpList_quiet (C := Bz w [(V1.heap.size, oP p), (g, .cells (strs [x, ⟨#[102, 114, 111, 109]⟩, z]).toArray 9), (w.heap.size, oPP zeroPr)]) 1 (by rfl) hB3 ?_
  refine wpQuiet_hide ?_
  intro lq hlq
  refine wpQuiet_step_h hlq ?_
  clear hlq lq
  intro K lq hlq hK
  refine wanted_go (by rfl) ?_
  refine ⟨?_, fun W hW => ?_, ?_⟩
  rotate_left
  · skip
    go_simp
    with_reducible rfl
  refine hK _ ?_
  clear hK K
  (try simp only [Act.put, List.setIfInBounds_toArray, List.set_cons_zero, List.set_cons_succ])
  refine wpQuiet_nil_h hlq ?_
  clear hlq lq hB3
  intro V4 hV5
  go_upto_region 5 with (fail)
  go_cut [7] from 32 to 36 (fun x7 W => ∃ g7, x7 = .pointer (some ⟨g7, 0, none⟩) ∧ Bz w [(g7, oPP ⟨p, anyP (pfam p)⟩), (V1.heap.size, oP p), (g, .cells (strs [x, ⟨#[102, 114, 111, 109]⟩, z]).toArray 9), (w.heap.size, oPP zeroPr)] W)
  case first =>
    refine wp_region_held_drew (S := Bz w [(V1.heap.size, oP p), (g, .cells (strs [x, ⟨#[102, 114, 111, 109]⟩, z]).toArray 9), (w.heap.size, oPP zeroPr)]) (by kernel_rfl) (hV5.drew) (fun hHeld => ?_)
    refine wpAnyH_take (i := 0) (oi := { dst := (some 32), op := (Op.load 55 (Operand.tmp 5)), type := 55, pos := "addr.go:281", after := #[], guard := none }) (v := vPf p) rfl (by kernel_rfl) (by kernel_rfl) (by kernel_rfl) (fun _ _ _ h => h) (Or.inl ⟨by rfl, fun W hW => ?_⟩) (by assumption) ?_
    · obtain ⟨q1, q2, q3⟩ := BoxP.run hW.all.1 Hp.out.1
      exact exec_load 55 _ rfl rfl q3
    (try simp only [Act.put, List.setIfInBounds_toArray, List.set_cons_zero, List.set_cons_succ])
    refine wpAnyH_take (i := 1) (oi := { dst := (some 33), op := (Op.load 55 (Operand.tmp 5)), type := 55, pos := "addr.go:281", after := #[], guard := none }) (v := vPf p) rfl (by kernel_rfl) (by kernel_rfl) (by kernel_rfl) (fun _ _ _ h => h) (Or.inl ⟨by rfl, fun W hW => ?_⟩) (by assumption) ?_
    · obtain ⟨q1, q2, q3⟩ := BoxP.run hW.all.1 Hp.out.1
      exact exec_load 55 _ rfl rfl q3
    (try simp only [Act.put, List.setIfInBounds_toArray, List.set_cons_zero, List.set_cons_succ])
    refine wpAnyH_ready (rs := [2, 5]) (by kernel_rfl) (by simp) ?_
    refine AllReadyH.cons (o := { dst := (some 34), op := (Op.call { callee := (Callee.value (Operand.func 54)), args := #[(Operand.tmp 33)], argTypes := #[55] }), type := 3, pos := "addr.go:281", after := #[{ on := 1, ground := Ground.data }], guard := none }) rfl (fun K hK => ?_) (AllReadyH.cons (o := { dst := (some 7), op := (Op.alloc 57), type := 0, pos := "addr.go:281", after := #[], guard := none }) rfl (fun K hK => ?_) AllReadyH.nil)
    · go_simp
      refine (pfam_any Hp.out).mono ?_
      rintro e wA ⟨rfl, bel⟩
      refine hK.out _ _ ?_ (fun hHeld => ?_)
      · exact hHeld.go bel
      clear hK K
      (try simp only [Act.put, List.setIfInBounds_toArray, List.set_cons_zero, List.set_cons_succ])
      refine wpAnyH_ready (rs := [3, 5]) (by kernel_rfl) (by simp) ?_
      refine AllReadyH.cons (o := { dst := (some 35), op := (Op.call { callee := (Callee.value (Operand.func 55)), args := #[(Operand.tmp 34)], argTypes := #[3] }), type := 55, pos := "addr.go:281", after := #[{ on := 2, ground := Ground.data }, { on := 2, ground := Ground.chain }], guard := none }) rfl (fun K hK => ?_) (AllReadyH.cons (o := { dst := (some 7), op := (Op.alloc 57), type := 0, pos := "addr.go:281", after := #[], guard := none }) rfl (fun K hK => ?_) AllReadyH.nil)
      · go_simp
        refine (any_any (pfam p)).mono ?_
        rintro e wB ⟨rfl, bel⟩
        refine hK.out _ _ ?_ (fun hHeld => ?_)
        · exact hHeld.go bel
        clear hK K
        (try simp only [Act.put, List.setIfInBounds_toArray, List.set_cons_zero, List.set_cons_succ])
        refine wpAnyH_take (i := 4) (oi := { dst := (some 36), op := (Op.build 57 #[(0, (Operand.tmp 32)), (1, (Operand.tmp 35))]), type := 57, pos := "addr.go:281", after := #[{ on := 0, ground := Ground.data }, { on := 3, ground := Ground.data }], guard := none }) (v := .agg (pCs p.a p.n ++ pCs (anyP (pfam p)).a (anyP (pfam p)).n).toArray) rfl (by kernel_rfl) (by kernel_rfl) (by kernel_rfl) (fun _ _ _ h => h) (Or.inl ⟨by rfl, fun W hW => ?_⟩) (by assumption) ?_
        · exact exec_build2 (x := .tmp 32) (y := .tmp 35) rfl rfl rfl (built57 Hp.out.1 hq.out.1)
        (try simp only [Act.put, List.setIfInBounds_toArray, List.set_cons_zero, List.set_cons_succ])
        refine wpAnyH_ready (rs := [5]) (by kernel_rfl) (by simp) ?_
        refine AllReadyH.cons (o := { dst := (some 7), op := (Op.alloc 57), type := 0, pos := "addr.go:281", after := #[], guard := none }) rfl (fun K hK => ?_) AllReadyH.nil
        have hZ := hHeld.alloc (oPP zeroPr) rfl
        go_simp
        refine hK.out _ _ ?_ (fun hHeld => ?_)
        · exact hHeld.go ((Below.refl _ _).alloc (Nat.le_refl _) _)
        clear hK K
        (try simp only [Act.put, List.setIfInBounds_toArray, List.set_cons_zero, List.set_cons_succ])
        refine wpAnyH_ready (rs := [6]) (by kernel_rfl) (by simp) ?_
        refine AllReadyH.cons (o := { dst := none, op := (Op.store 57 (Operand.tmp 7) (Operand.tmp 36)), type := 0, pos := "addr.go:281", after := #[{ on := 5, ground := Ground.data }, { on := 4, ground := Ground.data }, { on := 3, ground := Ground.chain }, { on := 0, ground := Ground.phase }, { on := 1, ground := Ground.phase }, { on := 2, ground := Ground.phase }, { on := 3, ground := Ground.phase }, { on := 4, ground := Ground.phase }, { on := 5, ground := Ground.phase }], guard := none }) rfl (fun K hK => ?_) AllReadyH.nil
        have hF := hZ.set 0 rfl (pCs p.a p.n ++ pCs (anyP (pfam p)).a (anyP (pfam p)).n).toArray
        refine wanted_go (by rfl) ?_
        refine wp_store_row 57 (.tmp 7) (.tmp 36) rfl _ _ rfl rfl 57 _ hZ.all.1 (info57 (p := ⟨p, anyP (pfam p)⟩) ⟨Hp.out, hq.out⟩) ((pp_size zeroPr_fit).trans (pp_size (p := ⟨p, anyP (pfam p)⟩) ⟨Hp.out, hq.out⟩).symm) (pp_one ⟨p, anyP (pfam p)⟩) ?_
        refine hK.out _ _ ?_ (fun hHeld => ?_)
        · exact hF.tail
        clear hK K
        (try simp only [Act.put, List.setIfInBounds_toArray, List.set_cons_zero, List.set_cons_succ])
        refine wpAnyH_done (by kernel_rfl) ?_ _
        go_wp2_with fail
        go_meet
        exact ⟨_, rfl, hF⟩
      · have hZ := hHeld.alloc (oPP zeroPr) rfl
        go_simp
        refine hK.out _ _ ?_ (fun hHeld => ?_)
        · exact hHeld.go ((Below.refl _ _).alloc (Nat.le_refl _) _)
        clear hK K
        (try simp only [Act.put, List.setIfInBounds_toArray, List.set_cons_zero, List.set_cons_succ])
        refine wpAnyH_ready (rs := [3]) (by kernel_rfl) (by simp) ?_
        refine AllReadyH.cons (o := { dst := (some 35), op := (Op.call { callee := (Callee.value (Operand.func 55)), args := #[(Operand.tmp 34)], argTypes := #[3] }), type := 55, pos := "addr.go:281", after := #[{ on := 2, ground := Ground.data }, { on := 2, ground := Ground.chain }], guard := none }) rfl (fun K hK => ?_) AllReadyH.nil
        go_simp
        refine (any_any (pfam p)).mono ?_
        rintro e wB ⟨rfl, bel⟩
        replace hZ := hZ.go bel
        refine hK.out _ _ ?_ (fun hHeld => ?_)
        · exact hHeld.go bel
        clear hK K
        (try simp only [Act.put, List.setIfInBounds_toArray, List.set_cons_zero, List.set_cons_succ])
        refine wpAnyH_take (i := 4) (oi := { dst := (some 36), op := (Op.build 57 #[(0, (Operand.tmp 32)), (1, (Operand.tmp 35))]), type := 57, pos := "addr.go:281", after := #[{ on := 0, ground := Ground.data }, { on := 3, ground := Ground.data }], guard := none }) (v := .agg (pCs p.a p.n ++ pCs (anyP (pfam p)).a (anyP (pfam p)).n).toArray) rfl (by kernel_rfl) (by kernel_rfl) (by kernel_rfl) (fun _ _ _ h => h) (Or.inl ⟨by rfl, fun W hW => ?_⟩) (by assumption) ?_
        · exact exec_build2 (x := .tmp 32) (y := .tmp 35) rfl rfl rfl (built57 Hp.out.1 hq.out.1)
        (try simp only [Act.put, List.setIfInBounds_toArray, List.set_cons_zero, List.set_cons_succ])
        refine wpAnyH_ready (rs := [6]) (by kernel_rfl) (by simp) ?_
        refine AllReadyH.cons (o := { dst := none, op := (Op.store 57 (Operand.tmp 7) (Operand.tmp 36)), type := 0, pos := "addr.go:281", after := #[{ on := 5, ground := Ground.data }, { on := 4, ground := Ground.data }, { on := 3, ground := Ground.chain }, { on := 0, ground := Ground.phase }, { on := 1, ground := Ground.phase }, { on := 2, ground := Ground.phase }, { on := 3, ground := Ground.phase }, { on := 4, ground := Ground.phase }, { on := 5, ground := Ground.phase }], guard := none }) rfl (fun K hK => ?_) AllReadyH.nil
        have hF := hZ.set 0 rfl (pCs p.a p.n ++ pCs (anyP (pfam p)).a (anyP (pfam p)).n).toArray
        refine wanted_go (by rfl) ?_
        refine wp_store_row 57 (.tmp 7) (.tmp 36) rfl _ _ rfl rfl 57 _ hZ.all.1 (info57 (p := ⟨p, anyP (pfam p)⟩) ⟨Hp.out, hq.out⟩) ((pp_size zeroPr_fit).trans (pp_size (p := ⟨p, anyP (pfam p)⟩) ⟨Hp.out, hq.out⟩).symm) (pp_one ⟨p, anyP (pfam p)⟩) ?_
        refine hK.out _ _ ?_ (fun hHeld => ?_)
        · exact hF.tail
        clear hK K
        (try simp only [Act.put, List.setIfInBounds_toArray, List.set_cons_zero, List.set_cons_succ])
        refine wpAnyH_done (by kernel_rfl) ?_ _
        go_wp2_with fail
        go_meet
        exact ⟨_, rfl, hF⟩
    · have hZ := hHeld.alloc (oPP zeroPr) rfl
      go_simp
      refine hK.out _ _ ?_ (fun hHeld => ?_)
      · exact hHeld.go ((Below.refl _ _).alloc (Nat.le_refl _) _)
      clear hK K
      (try simp only [Act.put, List.setIfInBounds_toArray, List.set_cons_zero, List.set_cons_succ])
      refine wpAnyH_ready (rs := [2]) (by kernel_rfl) (by simp) ?_
      refine AllReadyH.cons (o := { dst := (some 34), op := (Op.call { callee := (Callee.value (Operand.func 54)), args := #[(Operand.tmp 33)], argTypes := #[55] }), type := 3, pos := "addr.go:281", after := #[{ on := 1, ground := Ground.data }], guard := none }) rfl (fun K hK => ?_) AllReadyH.nil
      go_simp
      refine (pfam_any Hp.out).mono ?_
      rintro e wA ⟨rfl, bel⟩
      replace hZ := hZ.go bel
      refine hK.out _ _ ?_ (fun hHeld => ?_)
      · exact hHeld.go bel
      clear hK K
      (try simp only [Act.put, List.setIfInBounds_toArray, List.set_cons_zero, List.set_cons_succ])
      refine wpAnyH_ready (rs := [3]) (by kernel_rfl) (by simp) ?_
      refine AllReadyH.cons (o := { dst := (some 35), op := (Op.call { callee := (Callee.value (Operand.func 55)), args := #[(Operand.tmp 34)], argTypes := #[3] }), type := 55, pos := "addr.go:281", after := #[{ on := 2, ground := Ground.data }, { on := 2, ground := Ground.chain }], guard := none }) rfl (fun K hK => ?_) AllReadyH.nil
      go_simp
      refine (any_any (pfam p)).mono ?_
      rintro e wB ⟨rfl, bel⟩
      replace hZ := hZ.go bel
      refine hK.out _ _ ?_ (fun hHeld => ?_)
      · exact hHeld.go bel
      clear hK K
      (try simp only [Act.put, List.setIfInBounds_toArray, List.set_cons_zero, List.set_cons_succ])
      refine wpAnyH_take (i := 4) (oi := { dst := (some 36), op := (Op.build 57 #[(0, (Operand.tmp 32)), (1, (Operand.tmp 35))]), type := 57, pos := "addr.go:281", after := #[{ on := 0, ground := Ground.data }, { on := 3, ground := Ground.data }], guard := none }) (v := .agg (pCs p.a p.n ++ pCs (anyP (pfam p)).a (anyP (pfam p)).n).toArray) rfl (by kernel_rfl) (by kernel_rfl) (by kernel_rfl) (fun _ _ _ h => h) (Or.inl ⟨by rfl, fun W hW => ?_⟩) (by assumption) ?_
      · exact exec_build2 (x := .tmp 32) (y := .tmp 35) rfl rfl rfl (built57 Hp.out.1 hq.out.1)
      (try simp only [Act.put, List.setIfInBounds_toArray, List.set_cons_zero, List.set_cons_succ])
      refine wpAnyH_ready (rs := [6]) (by kernel_rfl) (by simp) ?_
      refine AllReadyH.cons (o := { dst := none, op := (Op.store 57 (Operand.tmp 7) (Operand.tmp 36)), type := 0, pos := "addr.go:281", after := #[{ on := 5, ground := Ground.data }, { on := 4, ground := Ground.data }, { on := 3, ground := Ground.chain }, { on := 0, ground := Ground.phase }, { on := 1, ground := Ground.phase }, { on := 2, ground := Ground.phase }, { on := 3, ground := Ground.phase }, { on := 4, ground := Ground.phase }, { on := 5, ground := Ground.phase }], guard := none }) rfl (fun K hK => ?_) AllReadyH.nil
      have hF := hZ.set 0 rfl (pCs p.a p.n ++ pCs (anyP (pfam p)).a (anyP (pfam p)).n).toArray
      refine wanted_go (by rfl) ?_
      refine wp_store_row 57 (.tmp 7) (.tmp 36) rfl _ _ rfl rfl 57 _ hZ.all.1 (info57 (p := ⟨p, anyP (pfam p)⟩) ⟨Hp.out, hq.out⟩) ((pp_size zeroPr_fit).trans (pp_size (p := ⟨p, anyP (pfam p)⟩) ⟨Hp.out, hq.out⟩).symm) (pp_one ⟨p, anyP (pfam p)⟩) ?_
      refine hK.out _ _ ?_ (fun hHeld => ?_)
      · exact hF.tail
      clear hK K
      (try simp only [Act.put, List.setIfInBounds_toArray, List.set_cons_zero, List.set_cons_succ])
      refine wpAnyH_done (by kernel_rfl) ?_ _
      go_wp2_with fail
      go_meet
      exact ⟨_, rfl, hF⟩
  case rest =>
    obtain ⟨g7, rfl, hC⟩ := hcut
    have hZ0 := hC.all.get 3 (x := (w.heap.size, oPP zeroPr)) rfl
    go_wp2_with (refine wpList_store_row rfl 57 (.tmp 2) (.tmp 58) rfl w.heap.size (pCs zeroA 0 ++ pCs zeroA 0).toArray rfl rfl 57 _ hZ0 (info57 zeroPr_fit) rfl (pp_one zeroPr) ?_)
    refine bodyPost_ret (v := .tuple #[vPP zeroPr, .int .i64 e]) ?_ rfl ⟨rfl, below_row hC.bel (Nat.le_refl _) _⟩
    exact results_cell_tmp rfl _ _ rfl (BoxPP.run (p := zeroPr) (setRow_heap _ _ _ _ _ _ hZ0) zeroPr_fit).2.2 rfl
theorem wpList_store_src {ops : Array Oper} {rest : List Oper} {o : Oper} {a : Act} {w : World} {Q : Exit → Act → World → Prop} (hgd : o.guard = none) (x y : Operand) (ho : o.op = .store 55 x y) {g : Nat} {q : Pr} {r : Pf} (hx : a.eval x = .pointer (some ⟨g, 17, none⟩)) (hy : a.eval y = vPf r) (hg : w.heap[g]? = some (oPP q)) (hq : q.fit) (hr : r.ok)
    (h : wpList Tryz.prog ops Q rest (a.put o.dst undef) (w.setRow g (pCs q.d.a q.d.n ++ pCs r.a r.n).toArray)) : wpList Tryz.prog ops Q (o :: rest) a w := by
  have l1 := pCs_len (n := q.d.n) hq.1.1
  have l2 := pCs_len (n := q.s.n) hq.2.1
  have l3 := pCs_len (n := r.n) hr.1
  have hg2 : w.heap[g]? = some (.cells (pCs q.d.a q.d.n ++ pCs q.s.a q.s.n).toArray 57) := hg
  refine wpList_store_mid hgd 55 x y ho g 17 (pCs r.a r.n).toArray hx hy (fun j hj => ?_) (info55 hr.1 _) (pCs_one _ _) ?_
  · have hj2 : 17 + j < (pCs q.d.a q.d.n ++ pCs q.s.a q.s.n).length := by rw [List.length_append, l1, l2]; simp [l3] at hj; omega
    refine ⟨?_, row_free hg2⟩
    rw [row_cell hg2, List.getElem?_toArray, List.getElem?_eq_getElem hj2]; rfl
  · show wpList _ _ _ _ _ (w.setCells g 17 (pCs r.a r.n))
    rw [setCells_row _ 17 w g _ 57 hg2 (by rw [List.length_append, l1, l2, l3]; omega), List.take_left' l1, List.drop_eq_nil_of_le (by rw [List.length_append, l1, l2, l3]; omega), List.append_nil]
    exact h
set_option maxRecDepth 100000 in
set_option maxHeartbeats 3200000 in
theorem pair_err2 {w : World} (E : Env w) {s : ByteArray} (hs : s.size < 4294967281) {x z : ByteArray} (hx : x.size < 4294967281) (hz : z.size < 4294967281) (hsp : pieces s ⟨#[32]⟩ = [x, ⟨#[102, 114, 111, 109]⟩, z]) {p : Pf} (hp : p.ok) (hpp : parsePS x = (p, 0)) {r : Pf} {e2 : Int} (hr : r.ok) (hpr : parsePS z = (r, e2)) (he : e2 ≠ 0) : Calls Tryz.prog 58 #[.string s] w fun e' w' => PairR zeroPr e2 e' ∧ Below w.heap.size w w' := by
  have Hp := Lib.hid hp
  have hq := Lib.hid (any_ok (pfam p))
  have c1 : ∀ {W : World}, Env W → Calls Tryz.prog 56 #[.string x] W fun e' w' => e' = .returned (.tuple #[vPf p, .int .i64 0]) ∧ Below W.heap.size W w' := fun EW => pp_is EW hx hpp
  have B0 := ((Bz.start w).alloc (oPP zeroPr) rfl : Bz w [(w.heap.size, oPP zeroPr)] _)
  have E0 := B0.env E
  clear hpp
  have h1 : (e2 == 0) = false := by simpa using he
  have h2 : (e2 != 0) = true := by simpa using he
  have Hr := Lib.hid hr
  have c2 : ∀ {W : World}, Env W → Calls Tryz.prog 56 #[.string z] W fun e' w' => e' = .returned (.tuple #[vPf r, .int .i64 e2]) ∧ Below W.heap.size W w' := fun EW => pp_is EW hz hpr
  replace he := Lib.hid he
  clear hr hpr
  go_enter Tryz.func58, Tryz.ntmps58
  go_upto_region 4 with (go_at_call 99; refine (split_op (n := 3) E0 hs (by decide) hsp rfl).mono ?_; rintro e' w1 ⟨⟨g, rfl, hg, hrow⟩, bel⟩; have B1 := B0.more bel hg hrow; have hc1 : w1.cell? ⟨g, 1, none⟩ = some (.string ⟨#[102, 114, 111, 109]⟩) := (row_cell hrow).trans rfl)
  clear hp B0 E0
  go_wp2_with (refine wpList_quiet_take (C := Bz w [(g, .cells (strs [x, ⟨#[102, 114, 111, 109]⟩, z]).toArray 9), (w.heap.size, oPP zeroPr)]) 9 6 (by rfl) B1 ?_)
  (try simp only [List.take_succ_cons, List.take_zero, List.drop_succ_cons, List.drop_zero])
  refine wpQuiet_hide ?_
  intro lq hlq
  refine wpQuiet_step_h hlq ?_
  clear hlq lq
  intro K lq hlq hK
  refine wanted_go (by rfl) ?_
  refine ⟨?_, fun W hW => ?_, ?_⟩
  rotate_left
  · skip
    go_simp
    with_reducible rfl
  refine hK _ ?_
  clear hK K
  (try simp only [Act.put, List.setIfInBounds_toArray, List.set_cons_zero, List.set_cons_succ])
  refine wpQuiet_step_h hlq ?_
  clear hlq lq
  intro K lq hlq hK
  refine wanted_go (by rfl) ?_
  refine ⟨.string x, fun W hW => ?_, ?_⟩
  · skip
    exact quiet_load 9 _ rfl rfl (ldStr (hW.all.get 0 (x := (g, .cells (strs [x, ⟨#[102, 114, 111, 109]⟩, z]).toArray 9)) rfl) 0 rfl)
  refine hK _ ?_
  clear hK K
  (try simp only [Act.put, List.setIfInBounds_toArray, List.set_cons_zero, List.set_cons_succ])
  refine wpQuiet_step_h hlq ?_
  clear hlq lq
  intro K lq hlq hK
  refine wanted_go (by rfl) ?_
  refine ⟨.tuple #[vPf p, .int .i64 0], fun W hW => ?_, ?_⟩
  · go_simp
    have E' := hW.env E
    exact (c1 E').mono fun e W2 hc2 => ⟨hc2.1, hW.go hc2.2⟩
  refine hK _ ?_
  clear hK K
  (try simp only [Act.put, List.setIfInBounds_toArray, List.set_cons_zero, List.set_cons_succ])
  refine wpQuiet_step_h hlq ?_
  clear hlq lq
  intro K lq hlq hK
  refine wanted_go (by rfl) ?_
  refine ⟨?_, fun W hW => ?_, ?_⟩
  rotate_left
  · skip
    go_simp
    with_reducible rfl
  refine hK _ ?_
  clear hK K
  (try simp only [Act.put, List.setIfInBounds_toArray, List.set_cons_zero, List.set_cons_succ])
  refine wpQuiet_step_h hlq ?_
  clear hlq lq
  intro K lq hlq hK
  refine wanted_go (by rfl) ?_
  refine ⟨?_, fun W hW => ?_, ?_⟩
  rotate_left
  · skip
    go_simp
    with_reducible rfl
  refine hK _ ?_
  clear hK K
  (try simp only [Act.put, List.setIfInBounds_toArray, List.set_cons_zero, List.set_cons_succ])
  refine wpQuiet_step_h hlq ?_
  clear hlq lq
  intro K lq hlq hK
  refine wanted_go (by rfl) ?_
  refine ⟨?_, fun W hW => ?_, ?_⟩
  rotate_left
  · skip
    go_simp
    with_reducible rfl
  refine hK _ ?_
  clear hK K
  (try simp only [Act.put, List.setIfInBounds_toArray, List.set_cons_zero, List.set_cons_succ])
  refine wpQuiet_nil_h hlq ?_
  clear hlq lq B1
  intro V1 hV2
  refine wpList_new rfl rfl rfl rfl z55 rfl (by rfl) (by rfl) (info55 Hp.out.1 _) (sizeP' Hp.out) (pCs_one _ _) ?_
  (try simp only [Act.put, List.setIfInBounds_toArray, List.set_cons_zero, List.set_cons_succ])
  have hB3 : Bz w [(V1.heap.size, oP p), (g, .cells (strs [x, ⟨#[102, 114, 111, 109]⟩, z]).toArray 9), (w.heap.size, oPP zeroPr)] (V1.alloc (oP p)) := hV2.alloc (oP p) rfl
  clear hV2
  refine wpList_quiet (C := Bz w [(V1.heap.size, oP p), (g, .cells (strs [x, ⟨#[102, 114, 111, 109]⟩, z]).toArray 9), (w.heap.size, oPP zeroPr)]) 1 (by rfl) hB3 ?_
  refine wpQuiet_hide ?_
  intro lq hlq
  refine wpQuiet_step_h hlq ?_
  clear hlq lq
  intro K lq hlq hK
  refine wanted_go (by rfl) ?_
  refine ⟨?_, fun W hW => ?_, ?_⟩
  rotate_left
  · skip
    go_simp
    with_reducible rfl
  refine hK _ ?_
  clear hK K
  (try simp only [Act.put, List.setIfInBounds_toArray, List.set_cons_zero, List.set_cons_succ])
  refine wpQuiet_nil_h hlq ?_
  clear hlq lq hB3
  intro V4 hV5
  go_upto_region 5 with (fail)
  go_cut [7] from 32 to 36 (fun x7 W => ∃ g7, x7 = .pointer (some ⟨g7, 0, none⟩) ∧ Bz w [(g7, oPP ⟨p, anyP (pfam p)⟩), (V1.heap.size, oP p), (g, .cells (strs [x, ⟨#[102, 114, 111, 109]⟩, z]).toArray 9), (w.heap.size, oPP zeroPr)] W)
  case first =>
    refine wp_region_held_drew (S := Bz w [(V1.heap.size, oP p), (g, .cells (strs [x, ⟨#[102, 114, 111, 109]⟩, z]).toArray 9), (w.heap.size, oPP zeroPr)]) (by kernel_rfl) (hV5.drew) (fun hHeld => ?_)
    refine wpAnyH_take (i := 0) (oi := { dst := (some 32), op := (Op.load 55 (Operand.tmp 5)), type := 55, pos := "addr.go:281", after := #[], guard := none }) (v := vPf p) rfl (by kernel_rfl) (by kernel_rfl) (by kernel_rfl) (fun _ _ _ h => h) (Or.inl ⟨by rfl, fun W hW => ?_⟩) (by assumption) ?_
    · obtain ⟨q1, q2, q3⟩ := BoxP.run hW.all.1 Hp.out.1
      exact exec_load 55 _ rfl rfl q3
    (try simp only [Act.put, List.setIfInBounds_toArray, List.set_cons_zero, List.set_cons_succ])
    refine wpAnyH_take (i := 1) (oi := { dst := (some 33), op := (Op.load 55 (Operand.tmp 5)), type := 55, pos := "addr.go:281", after := #[], guard := none }) (v := vPf p) rfl (by kernel_rfl) (by kernel_rfl) (by kernel_rfl) (fun _ _ _ h => h) (Or.inl ⟨by rfl, fun W hW => ?_⟩) (by assumption) ?_
    · obtain ⟨q1, q2, q3⟩ := BoxP.run hW.all.1 Hp.out.1
      exact exec_load 55 _ rfl rfl q3
    (try simp only [Act.put, List.setIfInBounds_toArray, List.set_cons_zero, List.set_cons_succ])
    refine wpAnyH_ready (rs := [2, 5]) (by kernel_rfl) (by simp) ?_
    refine AllReadyH.cons (o := { dst := (some 34), op := (Op.call { callee := (Callee.value (Operand.func 54)), args := #[(Operand.tmp 33)], argTypes := #[55] }), type := 3, pos := "addr.go:281", after := #[{ on := 1, ground := Ground.data }], guard := none }) rfl (fun K hK => ?_) (AllReadyH.cons (o := { dst := (some 7), op := (Op.alloc 57), type := 0, pos := "addr.go:281", after := #[], guard := none }) rfl (fun K hK => ?_) AllReadyH.nil)
    · go_simp
      refine (pfam_any Hp.out).mono ?_
      rintro e wA ⟨rfl, bel⟩
      refine hK.out _ _ ?_ (fun hHeld => ?_)
      · exact hHeld.go bel
      clear hK K
      (try simp only [Act.put, List.setIfInBounds_toArray, List.set_cons_zero, List.set_cons_succ])
      refine wpAnyH_ready (rs := [3, 5]) (by kernel_rfl) (by simp) ?_
      refine AllReadyH.cons (o := { dst := (some 35), op := (Op.call { callee := (Callee.value (Operand.func 55)), args := #[(Operand.tmp 34)], argTypes := #[3] }), type := 55, pos := "addr.go:281", after := #[{ on := 2, ground := Ground.data }, { on := 2, ground := Ground.chain }], guard := none }) rfl (fun K hK => ?_) (AllReadyH.cons (o := { dst := (some 7), op := (Op.alloc 57), type := 0, pos := "addr.go:281", after := #[], guard := none }) rfl (fun K hK => ?_) AllReadyH.nil)
      · go_simp
        refine (any_any (pfam p)).mono ?_
        rintro e wB ⟨rfl, bel⟩
        refine hK.out _ _ ?_ (fun hHeld => ?_)
        · exact hHeld.go bel
        clear hK K
        (try simp only [Act.put, List.setIfInBounds_toArray, List.set_cons_zero, List.set_cons_succ])
        refine wpAnyH_take (i := 4) (oi := { dst := (some 36), op := (Op.build 57 #[(0, (Operand.tmp 32)), (1, (Operand.tmp 35))]), type := 57, pos := "addr.go:281", after := #[{ on := 0, ground := Ground.data }, { on := 3, ground := Ground.data }], guard := none }) (v := .agg (pCs p.a p.n ++ pCs (anyP (pfam p)).a (anyP (pfam p)).n).toArray) rfl (by kernel_rfl) (by kernel_rfl) (by kernel_rfl) (fun _ _ _ h => h) (Or.inl ⟨by rfl, fun W hW => ?_⟩) (by assumption) ?_
        · exact exec_build2 (x := .tmp 32) (y := .tmp 35) rfl rfl rfl (built57 Hp.out.1 hq.out.1)
        (try simp only [Act.put, List.setIfInBounds_toArray, List.set_cons_zero, List.set_cons_succ])
        refine wpAnyH_ready (rs := [5]) (by kernel_rfl) (by simp) ?_
        refine AllReadyH.cons (o := { dst := (some 7), op := (Op.alloc 57), type := 0, pos := "addr.go:281", after := #[], guard := none }) rfl (fun K hK => ?_) AllReadyH.nil
        have hZ := hHeld.alloc (oPP zeroPr) rfl
        go_simp
        refine hK.out _ _ ?_ (fun hHeld => ?_)
        · exact hHeld.go ((Below.refl _ _).alloc (Nat.le_refl _) _)
        clear hK K
        (try simp only [Act.put, List.setIfInBounds_toArray, List.set_cons_zero, List.set_cons_succ])
        refine wpAnyH_ready (rs := [6]) (by kernel_rfl) (by simp) ?_
        refine AllReadyH.cons (o := { dst := none, op := (Op.store 57 (Operand.tmp 7) (Operand.tmp 36)), type := 0, pos := "addr.go:281", after := #[{ on := 5, ground := Ground.data }, { on := 4, ground := Ground.data }, { on := 3, ground := Ground.chain }, { on := 0, ground := Ground.phase }, { on := 1, ground := Ground.phase }, { on := 2, ground := Ground.phase }, { on := 3, ground := Ground.phase }, { on := 4, ground := Ground.phase }, { on := 5, ground := Ground.phase }], guard := none }) rfl (fun K hK => ?_) AllReadyH.nil
        have hF := hZ.set 0 rfl (pCs p.a p.n ++ pCs (anyP (pfam p)).a (anyP (pfam p)).n).toArray
        refine wanted_go (by rfl) ?_
        refine wp_store_row 57 (.tmp 7) (.tmp 36) rfl _ _ rfl rfl 57 _ hZ.all.1 (info57 (p := ⟨p, anyP (pfam p)⟩) ⟨Hp.out, hq.out⟩) ((pp_size zeroPr_fit).trans (pp_size (p := ⟨p, anyP (pfam p)⟩) ⟨Hp.out, hq.out⟩).symm) (pp_one ⟨p, anyP (pfam p)⟩) ?_
        refine hK.out _ _ ?_ (fun hHeld => ?_)
        · exact hF.tail
        clear hK K
        (try simp only [Act.put, List.setIfInBounds_toArray, List.set_cons_zero, List.set_cons_succ])
        refine wpAnyH_done (by kernel_rfl) ?_ _
        go_wp2_with fail
        go_meet
        exact ⟨_, rfl, hF⟩
      · have hZ := hHeld.alloc (oPP zeroPr) rfl
        go_simp
        refine hK.out _ _ ?_ (fun hHeld => ?_)
        · exact hHeld.go ((Below.refl _ _).alloc (Nat.le_refl _) _)
        clear hK K
        (try simp only [Act.put, List.setIfInBounds_toArray, List.set_cons_zero, List.set_cons_succ])
        refine wpAnyH_ready (rs := [3]) (by kernel_rfl) (by simp) ?_
        refine AllReadyH.cons (o := { dst := (some 35), op := (Op.call { callee := (Callee.value (Operand.func 55)), args := #[(Operand.tmp 34)], argTypes := #[3] }), type := 55, pos := "addr.go:281", after := #[{ on := 2, ground := Ground.data }, { on := 2, ground := Ground.chain }], guard := none }) rfl (fun K hK => ?_) AllReadyH.nil
        go_simp
        refine (any_any (pfam p)).mono ?_
        rintro e wB ⟨rfl, bel⟩
        replace hZ := hZ.go bel
        refine hK.out _ _ ?_ (fun hHeld => ?_)
        · exact hHeld.go bel
        clear hK K
        (try simp only [Act.put, List.setIfInBounds_toArray, List.set_cons_zero, List.set_cons_succ])
        refine wpAnyH_take (i := 4) (oi := { dst := (some 36), op := (Op.build 57 #[(0, (Operand.tmp 32)), (1, (Operand.tmp 35))]), type := 57, pos := "addr.go:281", after := #[{ on := 0, ground := Ground.data }, { on := 3, ground := Ground.data }], guard := none }) (v := .agg (pCs p.a p.n ++ pCs (anyP (pfam p)).a (anyP (pfam p)).n).toArray) rfl (by kernel_rfl) (by kernel_rfl) (by kernel_rfl) (fun _ _ _ h => h) (Or.inl ⟨by rfl, fun W hW => ?_⟩) (by assumption) ?_
        · exact exec_build2 (x := .tmp 32) (y := .tmp 35) rfl rfl rfl (built57 Hp.out.1 hq.out.1)
        (try simp only [Act.put, List.setIfInBounds_toArray, List.set_cons_zero, List.set_cons_succ])
        refine wpAnyH_ready (rs := [6]) (by kernel_rfl) (by simp) ?_
        refine AllReadyH.cons (o := { dst := none, op := (Op.store 57 (Operand.tmp 7) (Operand.tmp 36)), type := 0, pos := "addr.go:281", after := #[{ on := 5, ground := Ground.data }, { on := 4, ground := Ground.data }, { on := 3, ground := Ground.chain }, { on := 0, ground := Ground.phase }, { on := 1, ground := Ground.phase }, { on := 2, ground := Ground.phase }, { on := 3, ground := Ground.phase }, { on := 4, ground := Ground.phase }, { on := 5, ground := Ground.phase }], guard := none }) rfl (fun K hK => ?_) AllReadyH.nil
        have hF := hZ.set 0 rfl (pCs p.a p.n ++ pCs (anyP (pfam p)).a (anyP (pfam p)).n).toArray
        refine wanted_go (by rfl) ?_
        refine wp_store_row 57 (.tmp 7) (.tmp 36) rfl _ _ rfl rfl 57 _ hZ.all.1 (info57 (p := ⟨p, anyP (pfam p)⟩) ⟨Hp.out, hq.out⟩) ((pp_size zeroPr_fit).trans (pp_size (p := ⟨p, anyP (pfam p)⟩) ⟨Hp.out, hq.out⟩).symm) (pp_one ⟨p, anyP (pfam p)⟩) ?_
        refine hK.out _ _ ?_ (fun hHeld => ?_)
        · exact hF.tail
        clear hK K
        (try simp only [Act.put, List.setIfInBounds_toArray, List.set_cons_zero, List.set_cons_succ])
        refine wpAnyH_done (by kernel_rfl) ?_ _
        go_wp2_with fail
        go_meet
        exact ⟨_, rfl, hF⟩
    · have hZ := hHeld.alloc (oPP zeroPr) rfl
      go_simp
      refine hK.out _ _ ?_ (fun hHeld => ?_)
      · exact hHeld.go ((Below.refl _ _).alloc (Nat.le_refl _) _)
      clear hK K
      (try simp only [Act.put, List.setIfInBounds_toArray, List.set_cons_zero, List.set_cons_succ])
      refine wpAnyH_ready (rs := [2]) (by kernel_rfl) (by simp) ?_
      refine AllReadyH.cons (o := { dst := (some 34), op := (Op.call { callee := (Callee.value (Operand.func 54)), args := #[(Operand.tmp 33)], argTypes := #[55] }), type := 3, pos := "addr.go:281", after := #[{ on := 1, ground := Ground.data }], guard := none }) rfl (fun K hK => ?_) AllReadyH.nil
      go_simp
      refine (pfam_any Hp.out).mono ?_
      rintro e wA ⟨rfl, bel⟩
      replace hZ := hZ.go bel
      refine hK.out _ _ ?_ (fun hHeld => ?_)
      · exact hHeld.go bel
      clear hK K
      (try simp only [Act.put, List.setIfInBounds_toArray, List.set_cons_zero, List.set_cons_succ])
      refine wpAnyH_ready (rs := [3]) (by kernel_rfl) (by simp) ?_
      refine AllReadyH.cons (o := { dst := (some 35), op := (Op.call { callee := (Callee.value (Operand.func 55)), args := #[(Operand.tmp 34)], argTypes := #[3] }), type := 55, pos := "addr.go:281", after := #[{ on := 2, ground := Ground.data }, { on := 2, ground := Ground.chain }], guard := none }) rfl (fun K hK => ?_) AllReadyH.nil
      go_simp
      refine (any_any (pfam p)).mono ?_
      rintro e wB ⟨rfl, bel⟩
      replace hZ := hZ.go bel
      refine hK.out _ _ ?_ (fun hHeld => ?_)
      · exact hHeld.go bel
      clear hK K
      (try simp only [Act.put, List.setIfInBounds_toArray, List.set_cons_zero, List.set_cons_succ])
      refine wpAnyH_take (i := 4) (oi := { dst := (some 36), op := (Op.build 57 #[(0, (Operand.tmp 32)), (1, (Operand.tmp 35))]), type := 57, pos := "addr.go:281", after := #[{ on := 0, ground := Ground.data }, { on := 3, ground := Ground.data }], guard := none }) (v := .agg (pCs p.a p.n ++ pCs (anyP (pfam p)).a (anyP (pfam p)).n).toArray) rfl (by kernel_rfl) (by kernel_rfl) (by kernel_rfl) (fun _ _ _ h => h) (Or.inl ⟨by rfl, fun W hW => ?_⟩) (by assumption) ?_
      · exact exec_build2 (x := .tmp 32) (y := .tmp 35) rfl rfl rfl (built57 Hp.out.1 hq.out.1)
      (try simp only [Act.put, List.setIfInBounds_toArray, List.set_cons_zero, List.set_cons_succ])
      refine wpAnyH_ready (rs := [6]) (by kernel_rfl) (by simp) ?_
      refine AllReadyH.cons (o := { dst := none, op := (Op.store 57 (Operand.tmp 7) (Operand.tmp 36)), type := 0, pos := "addr.go:281", after := #[{ on := 5, ground := Ground.data }, { on := 4, ground := Ground.data }, { on := 3, ground := Ground.chain }, { on := 0, ground := Ground.phase }, { on := 1, ground := Ground.phase }, { on := 2, ground := Ground.phase }, { on := 3, ground := Ground.phase }, { on := 4, ground := Ground.phase }, { on := 5, ground := Ground.phase }], guard := none }) rfl (fun K hK => ?_) AllReadyH.nil
      have hF := hZ.set 0 rfl (pCs p.a p.n ++ pCs (anyP (pfam p)).a (anyP (pfam p)).n).toArray
      refine wanted_go (by rfl) ?_
      refine wp_store_row 57 (.tmp 7) (.tmp 36) rfl _ _ rfl rfl 57 _ hZ.all.1 (info57 (p := ⟨p, anyP (pfam p)⟩) ⟨Hp.out, hq.out⟩) ((pp_size zeroPr_fit).trans (pp_size (p := ⟨p, anyP (pfam p)⟩) ⟨Hp.out, hq.out⟩).symm) (pp_one ⟨p, anyP (pfam p)⟩) ?_
      refine hK.out _ _ ?_ (fun hHeld => ?_)
      · exact hF.tail
      clear hK K
      (try simp only [Act.put, List.setIfInBounds_toArray, List.set_cons_zero, List.set_cons_succ])
      refine wpAnyH_done (by kernel_rfl) ?_ _
      go_wp2_with fail
      go_meet
      exact ⟨_, rfl, hF⟩
  case rest =>
    obtain ⟨g7, rfl, hC⟩ := hcut
    have E7 := hC.env E
    have hcz : wc.cell? ⟨g, 2, none⟩ = some (.string z) := (row_cell (hC.all.get 2 (x := (g, .cells (strs [x, ⟨#[102, 114, 111, 109]⟩, z]).toArray 9)) rfl)).trans rfl
    go_wp2_with (first
      | (refine wpList_store_row rfl 57 (.tmp 2) (.tmp 58) rfl w.heap.size (pCs zeroA 0 ++ pCs zeroA 0).toArray rfl rfl 57 _ (B9.all.get 3 (x := (w.heap.size, oPP zeroPr)) rfl) (info57 zeroPr_fit) rfl (pp_one zeroPr) ?_)
      | (refine wpList_store_src rfl (.tmp 51) (.tmp 49) rfl (g := g7) (q := ⟨p, anyP (pfam p)⟩) (r := r) rfl rfl (B8.all.get 0 (x := (g7, oPP ⟨p, anyP (pfam p)⟩)) rfl) ⟨Hp.out, hq.out⟩ Hr.out ?_; have B9 := (B8.set 0 rfl (pCs p.a p.n ++ pCs r.a r.n).toArray : Bz w [(g7, oPP ⟨p, r⟩), (V1.heap.size, oP p), (g, .cells (strs [x, ⟨#[102, 114, 111, 109]⟩, z]).toArray 9), (w.heap.size, oPP zeroPr)] _))
      | (go_at_call 56; refine (c2 E7).mono ?_; rintro e' w8 ⟨rfl, bel8⟩; have B8 := hC.go bel8))
    refine bodyPost_ret (v := .tuple #[vPP zeroPr, .int .i64 e2]) ?_ rfl ⟨rfl, below_row B9.bel (Nat.le_refl _) _⟩
    exact results_cell_tmp rfl _ _ rfl (BoxPP.run (p := zeroPr) (setRow_heap _ _ _ _ _ _ (B9.all.get 3 (x := (w.heap.size, oPP zeroPr)) rfl)) zeroPr_fit).2.2 rfl
set_option maxRecDepth 100000 in
set_option maxHeartbeats 3200000 in
theorem pair_err4 {w : World} (E : Env w) {s : ByteArray} (hs : s.size < 4294967281) {x z : ByteArray} (hx : x.size < 4294967281) (hz : z.size < 4294967281) (hsp : pieces s ⟨#[32]⟩ = [x, ⟨#[102, 114, 111, 109]⟩, z]) {p : Pf} (hp : p.ok) (hpp : parsePS x = (p, 0)) {r : Pf} (hr : r.ok) (hpr : parsePS z = (r, 0)) (hc : chkPP ⟨p, r⟩ = false) : Calls Tryz.prog 58 #[.string s] w fun e' w' => PairR zeroPr 21 e' ∧ Below w.heap.size w w' := by
  have Hp := Lib.hid hp
  have hq := Lib.hid (any_ok (pfam p))
  have c1 : ∀ {W : World}, Env W → Calls Tryz.prog 56 #[.string x] W fun e' w' => e' = .returned (.tuple #[vPf p, .int .i64 0]) ∧ Below W.heap.size W w' := fun EW => pp_is EW hx hpp
  have B0 := ((Bz.start w).alloc (oPP zeroPr) rfl : Bz w [(w.heap.size, oPP zeroPr)] _)
  have E0 := B0.env E
  clear hpp
  have hchk : ∀ {W : World}, Calls Tryz.prog 60 #[.agg (pCs p.a p.n ++ pCs r.a r.n).toArray] W fun e w' => e = .returned (.int .i64 21) ∧ Below W.heap.size W w' := fun {W} => chkPP_call (p := ⟨p, r⟩) ⟨hp, hr⟩ (by rw [hc]; rfl)
  have Hr := Lib.hid hr
  have c2 : ∀ {W : World}, Env W → Calls Tryz.prog 56 #[.string z] W fun e' w' => e' = .returned (.tuple #[vPf r, .int .i64 0]) ∧ Below W.heap.size W w' := fun EW => pp_is EW hz hpr
  clear hr hpr hc
  go_enter Tryz.func58, Tryz.ntmps58
  go_upto_region 4 with (go_at_call 99; refine (split_op (n := 3) E0 hs (by decide) hsp rfl).mono ?_; rintro e' w1 ⟨⟨g, rfl, hg, hrow⟩, bel⟩; have B1 := B0.more bel hg hrow; have hc1 : w1.cell? ⟨g, 1, none⟩ = some (.string ⟨#[102, 114, 111, 109]⟩) := (row_cell hrow).trans rfl)
  clear hp B0 E0
  go_wp2_with (refine wpList_quiet_take (C := Bz w [(g, .cells (strs [x, ⟨#[102, 114, 111, 109]⟩, z]).toArray 9), (w.heap.size, oPP zeroPr)]) 9 6 (by rfl) B1 ?_)
  (try simp only [List.take_succ_cons, List.take_zero, List.drop_succ_cons, List.drop_zero])
  refine wpQuiet_hide ?_
  intro lq hlq
  refine wpQuiet_step_h hlq ?_
  clear hlq lq
  intro K lq hlq hK
  refine wanted_go (by rfl) ?_
  refine ⟨?_, fun W hW => ?_, ?_⟩
  rotate_left
  · skip
    go_simp
    with_reducible rfl
  refine hK _ ?_
  clear hK K
  (try simp only [Act.put, List.setIfInBounds_toArray, List.set_cons_zero, List.set_cons_succ])
  refine wpQuiet_step_h hlq ?_
  clear hlq lq
  intro K lq hlq hK
  refine wanted_go (by rfl) ?_
  refine ⟨.string x, fun W hW => ?_, ?_⟩
  · skip
    exact quiet_load 9 _ rfl rfl (ldStr (hW.all.get 0 (x := (g, .cells (strs [x, ⟨#[102, 114, 111, 109]⟩, z]).toArray 9)) rfl) 0 rfl)
  refine hK _ ?_
  clear hK K
  (try simp only [Act.put, List.setIfInBounds_toArray, List.set_cons_zero, List.set_cons_succ])
  refine wpQuiet_step_h hlq ?_
  clear hlq lq
  intro K lq hlq hK
  refine wanted_go (by rfl) ?_
  refine ⟨.tuple #[vPf p, .int .i64 0], fun W hW => ?_, ?_⟩
  · go_simp
    have E' := hW.env E
    exact (c1 E').mono fun e W2 hc2 => ⟨hc2.1, hW.go hc2.2⟩
  refine hK _ ?_
  clear hK K
  (try simp only [Act.put, List.setIfInBounds_toArray, List.set_cons_zero, List.set_cons_succ])
  refine wpQuiet_step_h hlq ?_
  clear hlq lq
  intro K lq hlq hK
  refine wanted_go (by rfl) ?_
  refine ⟨?_, fun W hW => ?_, ?_⟩
  rotate_left
  · skip
    go_simp
    with_reducible rfl
  refine hK _ ?_
  clear hK K
  (try simp only [Act.put, List.setIfInBounds_toArray, List.set_cons_zero, List.set_cons_succ])
  refine wpQuiet_step_h hlq ?_
  clear hlq lq
  intro K lq hlq hK
  refine wanted_go (by rfl) ?_
  refine ⟨?_, fun W hW => ?_, ?_⟩
  rotate_left
  · skip
    go_simp
    with_reducible rfl
  refine hK _ ?_
  clear hK K
  (try simp only [Act.put, List.setIfInBounds_toArray, List.set_cons_zero, List.set_cons_succ])
  refine wpQuiet_step_h hlq ?_
  clear hlq lq
  intro K lq hlq hK
  refine wanted_go (by rfl) ?_
  refine ⟨?_, fun W hW => ?_, ?_⟩
  rotate_left
  · skip
    go_simp
    with_reducible rfl
  refine hK _ ?_
  clear hK K
  (try simp only [Act.put, List.setIfInBounds_toArray, List.set_cons_zero, List.set_cons_succ])
  refine wpQuiet_nil_h hlq ?_
  clear hlq lq B1
  intro V1 hV2
  refine wpList_new rfl rfl rfl rfl z55 rfl (by rfl) (by rfl) (info55 Hp.out.1 _) (sizeP' Hp.out) (pCs_one _ _) ?_
  (try simp only [Act.put, List.setIfInBounds_toArray, List.set_cons_zero, List.set_cons_succ])
  have hB3 : Bz w [(V1.heap.size, oP p), (g, .cells (strs [x, ⟨#[102, 114, 111, 109]⟩, z]).toArray 9), (w.heap.size, oPP zeroPr)] (V1.alloc (oP p)) := hV2.alloc (oP p) rfl
  clear hV2
  refine wpList_quiet (C := Bz w [(V1.heap.size, oP p), (g, .cells (strs [x, ⟨#[102, 114, 111, 109]⟩, z]).toArray 9), (w.heap.size, oPP zeroPr)]) 1 (by rfl) hB3 ?_
  refine wpQuiet_hide ?_
  intro lq hlq
  refine wpQuiet_step_h hlq ?_
  clear hlq lq
  intro K lq hlq hK
  refine wanted_go (by rfl) ?_
  refine ⟨?_, fun W hW => ?_, ?_⟩
  rotate_left
  · skip
    go_simp
    with_reducible rfl
  refine hK _ ?_
  clear hK K
  (try simp only [Act.put, List.setIfInBounds_toArray, List.set_cons_zero, List.set_cons_succ])
  refine wpQuiet_nil_h hlq ?_
  clear hlq lq hB3
  intro V4 hV5
  go_upto_region 5 with (fail)
  go_cut [7] from 32 to 36 (fun x7 W => ∃ g7, x7 = .pointer (some ⟨g7, 0, none⟩) ∧ Bz w [(g7, oPP ⟨p, anyP (pfam p)⟩), (V1.heap.size, oP p), (g, .cells (strs [x, ⟨#[102, 114, 111, 109]⟩, z]).toArray 9), (w.heap.size, oPP zeroPr)] W)
  case first =>
    refine wp_region_held_drew (S := Bz w [(V1.heap.size, oP p), (g, .cells (strs [x, ⟨#[102, 114, 111, 109]⟩, z]).toArray 9), (w.heap.size, oPP zeroPr)]) (by kernel_rfl) (hV5.drew) (fun hHeld => ?_)
    refine wpAnyH_take (i := 0) (oi := { dst := (some 32), op := (Op.load 55 (Operand.tmp 5)), type := 55, pos := "addr.go:281", after := #[], guard := none }) (v := vPf p) rfl (by kernel_rfl) (by kernel_rfl) (by kernel_rfl) (fun _ _ _ h => h) (Or.inl ⟨by rfl, fun W hW => ?_⟩) (by assumption) ?_
    · obtain ⟨q1, q2, q3⟩ := BoxP.run hW.all.1 Hp.out.1
      exact exec_load 55 _ rfl rfl q3
    (try simp only [Act.put, List.setIfInBounds_toArray, List.set_cons_zero, List.set_cons_succ])
    refine wpAnyH_take (i := 1) (oi := { dst := (some 33), op := (Op.load 55 (Operand.tmp 5)), type := 55, pos := "addr.go:281", after := #[], guard := none }) (v := vPf p) rfl (by kernel_rfl) (by kernel_rfl) (by kernel_rfl) (fun _ _ _ h => h) (Or.inl ⟨by rfl, fun W hW => ?_⟩) (by assumption) ?_
    · obtain ⟨q1, q2, q3⟩ := BoxP.run hW.all.1 Hp.out.1
      exact exec_load 55 _ rfl rfl q3
    (try simp only [Act.put, List.setIfInBounds_toArray, List.set_cons_zero, List.set_cons_succ])
    refine wpAnyH_ready (rs := [2, 5]) (by kernel_rfl) (by simp) ?_
    refine AllReadyH.cons (o := { dst := (some 34), op := (Op.call { callee := (Callee.value (Operand.func 54)), args := #[(Operand.tmp 33)], argTypes := #[55] }), type := 3, pos := "addr.go:281", after := #[{ on := 1, ground := Ground.data }], guard := none }) rfl (fun K hK => ?_) (AllReadyH.cons (o := { dst := (some 7), op := (Op.alloc 57), type := 0, pos := "addr.go:281", after := #[], guard := none }) rfl (fun K hK => ?_) AllReadyH.nil)
    · go_simp
      refine (pfam_any Hp.out).mono ?_
      rintro e wA ⟨rfl, bel⟩
      refine hK.out _ _ ?_ (fun hHeld => ?_)
      · exact hHeld.go bel
      clear hK K
      (try simp only [Act.put, List.setIfInBounds_toArray, List.set_cons_zero, List.set_cons_succ])
      refine wpAnyH_ready (rs := [3, 5]) (by kernel_rfl) (by simp) ?_
      refine AllReadyH.cons (o := { dst := (some 35), op := (Op.call { callee := (Callee.value (Operand.func 55)), args := #[(Operand.tmp 34)], argTypes := #[3] }), type := 55, pos := "addr.go:281", after := #[{ on := 2, ground := Ground.data }, { on := 2, ground := Ground.chain }], guard := none }) rfl (fun K hK => ?_) (AllReadyH.cons (o := { dst := (some 7), op := (Op.alloc 57), type := 0, pos := "addr.go:281", after := #[], guard := none }) rfl (fun K hK => ?_) AllReadyH.nil)
      · go_simp
        refine (any_any (pfam p)).mono ?_
        rintro e wB ⟨rfl, bel⟩
        refine hK.out _ _ ?_ (fun hHeld => ?_)
        · exact hHeld.go bel
        clear hK K
        (try simp only [Act.put, List.setIfInBounds_toArray, List.set_cons_zero, List.set_cons_succ])
        refine wpAnyH_take (i := 4) (oi := { dst := (some 36), op := (Op.build 57 #[(0, (Operand.tmp 32)), (1, (Operand.tmp 35))]), type := 57, pos := "addr.go:281", after := #[{ on := 0, ground := Ground.data }, { on := 3, ground := Ground.data }], guard := none }) (v := .agg (pCs p.a p.n ++ pCs (anyP (pfam p)).a (anyP (pfam p)).n).toArray) rfl (by kernel_rfl) (by kernel_rfl) (by kernel_rfl) (fun _ _ _ h => h) (Or.inl ⟨by rfl, fun W hW => ?_⟩) (by assumption) ?_
        · exact exec_build2 (x := .tmp 32) (y := .tmp 35) rfl rfl rfl (built57 Hp.out.1 hq.out.1)
        (try simp only [Act.put, List.setIfInBounds_toArray, List.set_cons_zero, List.set_cons_succ])
        refine wpAnyH_ready (rs := [5]) (by kernel_rfl) (by simp) ?_
        refine AllReadyH.cons (o := { dst := (some 7), op := (Op.alloc 57), type := 0, pos := "addr.go:281", after := #[], guard := none }) rfl (fun K hK => ?_) AllReadyH.nil
        have hZ := hHeld.alloc (oPP zeroPr) rfl
        go_simp
        refine hK.out _ _ ?_ (fun hHeld => ?_)
        · exact hHeld.go ((Below.refl _ _).alloc (Nat.le_refl _) _)
        clear hK K
        (try simp only [Act.put, List.setIfInBounds_toArray, List.set_cons_zero, List.set_cons_succ])
        refine wpAnyH_ready (rs := [6]) (by kernel_rfl) (by simp) ?_
        refine AllReadyH.cons (o := { dst := none, op := (Op.store 57 (Operand.tmp 7) (Operand.tmp 36)), type := 0, pos := "addr.go:281", after := #[{ on := 5, ground := Ground.data }, { on := 4, ground := Ground.data }, { on := 3, ground := Ground.chain }, { on := 0, ground := Ground.phase }, { on := 1, ground := Ground.phase }, { on := 2, ground := Ground.phase }, { on := 3, ground := Ground.phase }, { on := 4, ground := Ground.phase }, { on := 5, ground := Ground.phase }], guard := none }) rfl (fun K hK => ?_) AllReadyH.nil
        have hF := hZ.set 0 rfl (pCs p.a p.n ++ pCs (anyP (pfam p)).a (anyP (pfam p)).n).toArray
        refine wanted_go (by rfl) ?_
        refine wp_store_row 57 (.tmp 7) (.tmp 36) rfl _ _ rfl rfl 57 _ hZ.all.1 (info57 (p := ⟨p, anyP (pfam p)⟩) ⟨Hp.out, hq.out⟩) ((pp_size zeroPr_fit).trans (pp_size (p := ⟨p, anyP (pfam p)⟩) ⟨Hp.out, hq.out⟩).symm) (pp_one ⟨p, anyP (pfam p)⟩) ?_
        refine hK.out _ _ ?_ (fun hHeld => ?_)
        · exact hF.tail
        clear hK K
        (try simp only [Act.put, List.setIfInBounds_toArray, List.set_cons_zero, List.set_cons_succ])
        refine wpAnyH_done (by kernel_rfl) ?_ _
        go_wp2_with fail
        go_meet
        exact ⟨_, rfl, hF⟩
      · have hZ := hHeld.alloc (oPP zeroPr) rfl
        go_simp
        refine hK.out _ _ ?_ (fun hHeld => ?_)
        · exact hHeld.go ((Below.refl _ _).alloc (Nat.le_refl _) _)
        clear hK K
        (try simp only [Act.put, List.setIfInBounds_toArray, List.set_cons_zero, List.set_cons_succ])
        refine wpAnyH_ready (rs := [3]) (by kernel_rfl) (by simp) ?_
        refine AllReadyH.cons (o := { dst := (some 35), op := (Op.call { callee := (Callee.value (Operand.func 55)), args := #[(Operand.tmp 34)], argTypes := #[3] }), type := 55, pos := "addr.go:281", after := #[{ on := 2, ground := Ground.data }, { on := 2, ground := Ground.chain }], guard := none }) rfl (fun K hK => ?_) AllReadyH.nil
        go_simp
        refine (any_any (pfam p)).mono ?_
        rintro e wB ⟨rfl, bel⟩
        replace hZ := hZ.go bel
        refine hK.out _ _ ?_ (fun hHeld => ?_)
        · exact hHeld.go bel
        clear hK K
        (try simp only [Act.put, List.setIfInBounds_toArray, List.set_cons_zero, List.set_cons_succ])
        refine wpAnyH_take (i := 4) (oi := { dst := (some 36), op := (Op.build 57 #[(0, (Operand.tmp 32)), (1, (Operand.tmp 35))]), type := 57, pos := "addr.go:281", after := #[{ on := 0, ground := Ground.data }, { on := 3, ground := Ground.data }], guard := none }) (v := .agg (pCs p.a p.n ++ pCs (anyP (pfam p)).a (anyP (pfam p)).n).toArray) rfl (by kernel_rfl) (by kernel_rfl) (by kernel_rfl) (fun _ _ _ h => h) (Or.inl ⟨by rfl, fun W hW => ?_⟩) (by assumption) ?_
        · exact exec_build2 (x := .tmp 32) (y := .tmp 35) rfl rfl rfl (built57 Hp.out.1 hq.out.1)
        (try simp only [Act.put, List.setIfInBounds_toArray, List.set_cons_zero, List.set_cons_succ])
        refine wpAnyH_ready (rs := [6]) (by kernel_rfl) (by simp) ?_
        refine AllReadyH.cons (o := { dst := none, op := (Op.store 57 (Operand.tmp 7) (Operand.tmp 36)), type := 0, pos := "addr.go:281", after := #[{ on := 5, ground := Ground.data }, { on := 4, ground := Ground.data }, { on := 3, ground := Ground.chain }, { on := 0, ground := Ground.phase }, { on := 1, ground := Ground.phase }, { on := 2, ground := Ground.phase }, { on := 3, ground := Ground.phase }, { on := 4, ground := Ground.phase }, { on := 5, ground := Ground.phase }], guard := none }) rfl (fun K hK => ?_) AllReadyH.nil
        have hF := hZ.set 0 rfl (pCs p.a p.n ++ pCs (anyP (pfam p)).a (anyP (pfam p)).n).toArray
        refine wanted_go (by rfl) ?_
        refine wp_store_row 57 (.tmp 7) (.tmp 36) rfl _ _ rfl rfl 57 _ hZ.all.1 (info57 (p := ⟨p, anyP (pfam p)⟩) ⟨Hp.out, hq.out⟩) ((pp_size zeroPr_fit).trans (pp_size (p := ⟨p, anyP (pfam p)⟩) ⟨Hp.out, hq.out⟩).symm) (pp_one ⟨p, anyP (pfam p)⟩) ?_
        refine hK.out _ _ ?_ (fun hHeld => ?_)
        · exact hF.tail
        clear hK K
        (try simp only [Act.put, List.setIfInBounds_toArray, List.set_cons_zero, List.set_cons_succ])
        refine wpAnyH_done (by kernel_rfl) ?_ _
        go_wp2_with fail
        go_meet
        exact ⟨_, rfl, hF⟩
    · have hZ := hHeld.alloc (oPP zeroPr) rfl
      go_simp
      refine hK.out _ _ ?_ (fun hHeld => ?_)
      · exact hHeld.go ((Below.refl _ _).alloc (Nat.le_refl _) _)
      clear hK K
      (try simp only [Act.put, List.setIfInBounds_toArray, List.set_cons_zero, List.set_cons_succ])
      refine wpAnyH_ready (rs := [2]) (by kernel_rfl) (by simp) ?_
      refine AllReadyH.cons (o := { dst := (some 34), op := (Op.call { callee := (Callee.value (Operand.func 54)), args := #[(Operand.tmp 33)], argTypes := #[55] }), type := 3, pos := "addr.go:281", after := #[{ on := 1, ground := Ground.data }], guard := none }) rfl (fun K hK => ?_) AllReadyH.nil
      go_simp
      refine (pfam_any Hp.out).mono ?_
      rintro e wA ⟨rfl, bel⟩
      replace hZ := hZ.go bel
      refine hK.out _ _ ?_ (fun hHeld => ?_)
      · exact hHeld.go bel
      clear hK K
      (try simp only [Act.put, List.setIfInBounds_toArray, List.set_cons_zero, List.set_cons_succ])
      refine wpAnyH_ready (rs := [3]) (by kernel_rfl) (by simp) ?_
      refine AllReadyH.cons (o := { dst := (some 35), op := (Op.call { callee := (Callee.value (Operand.func 55)), args := #[(Operand.tmp 34)], argTypes := #[3] }), type := 55, pos := "addr.go:281", after := #[{ on := 2, ground := Ground.data }, { on := 2, ground := Ground.chain }], guard := none }) rfl (fun K hK => ?_) AllReadyH.nil
      go_simp
      refine (any_any (pfam p)).mono ?_
      rintro e wB ⟨rfl, bel⟩
      replace hZ := hZ.go bel
      refine hK.out _ _ ?_ (fun hHeld => ?_)
      · exact hHeld.go bel
      clear hK K
      (try simp only [Act.put, List.setIfInBounds_toArray, List.set_cons_zero, List.set_cons_succ])
      refine wpAnyH_take (i := 4) (oi := { dst := (some 36), op := (Op.build 57 #[(0, (Operand.tmp 32)), (1, (Operand.tmp 35))]), type := 57, pos := "addr.go:281", after := #[{ on := 0, ground := Ground.data }, { on := 3, ground := Ground.data }], guard := none }) (v := .agg (pCs p.a p.n ++ pCs (anyP (pfam p)).a (anyP (pfam p)).n).toArray) rfl (by kernel_rfl) (by kernel_rfl) (by kernel_rfl) (fun _ _ _ h => h) (Or.inl ⟨by rfl, fun W hW => ?_⟩) (by assumption) ?_
      · exact exec_build2 (x := .tmp 32) (y := .tmp 35) rfl rfl rfl (built57 Hp.out.1 hq.out.1)
      (try simp only [Act.put, List.setIfInBounds_toArray, List.set_cons_zero, List.set_cons_succ])
      refine wpAnyH_ready (rs := [6]) (by kernel_rfl) (by simp) ?_
      refine AllReadyH.cons (o := { dst := none, op := (Op.store 57 (Operand.tmp 7) (Operand.tmp 36)), type := 0, pos := "addr.go:281", after := #[{ on := 5, ground := Ground.data }, { on := 4, ground := Ground.data }, { on := 3, ground := Ground.chain }, { on := 0, ground := Ground.phase }, { on := 1, ground := Ground.phase }, { on := 2, ground := Ground.phase }, { on := 3, ground := Ground.phase }, { on := 4, ground := Ground.phase }, { on := 5, ground := Ground.phase }], guard := none }) rfl (fun K hK => ?_) AllReadyH.nil
      have hF := hZ.set 0 rfl (pCs p.a p.n ++ pCs (anyP (pfam p)).a (anyP (pfam p)).n).toArray
      refine wanted_go (by rfl) ?_
      refine wp_store_row 57 (.tmp 7) (.tmp 36) rfl _ _ rfl rfl 57 _ hZ.all.1 (info57 (p := ⟨p, anyP (pfam p)⟩) ⟨Hp.out, hq.out⟩) ((pp_size zeroPr_fit).trans (pp_size (p := ⟨p, anyP (pfam p)⟩) ⟨Hp.out, hq.out⟩).symm) (pp_one ⟨p, anyP (pfam p)⟩) ?_
      refine hK.out _ _ ?_ (fun hHeld => ?_)
      · exact hF.tail
      clear hK K
      (try simp only [Act.put, List.setIfInBounds_toArray, List.set_cons_zero, List.set_cons_succ])
      refine wpAnyH_done (by kernel_rfl) ?_ _
      go_wp2_with fail
      go_meet
      exact ⟨_, rfl, hF⟩
  case rest =>
    obtain ⟨g7, rfl, hC⟩ := hcut
    have E7 := hC.env E
    have hcz : wc.cell? ⟨g, 2, none⟩ = some (.string z) := (row_cell (hC.all.get 2 (x := (g, .cells (strs [x, ⟨#[102, 114, 111, 109]⟩, z]).toArray 9)) rfl)).trans rfl
    go_wp2_with (first
      | (refine wpList_store_row rfl 57 (.tmp 2) (.tmp 58) rfl w.heap.size (pCs zeroA 0 ++ pCs zeroA 0).toArray rfl rfl 57 _ (B10.all.get 3 (x := (w.heap.size, oPP zeroPr)) rfl) (info57 zeroPr_fit) rfl (pp_one zeroPr) ?_)
      | (refine wpList_load_mid rfl 57 (.tmp 7) rfl g7 0 rfl (pCs p.a p.n ++ pCs r.a r.n) _ (row_load (B10.all.get 0 (x := (g7, oPP ⟨p, r⟩)) rfl)) Tryz.underlying57 rfl (info57 (p := ⟨p, r⟩) ⟨Hp.out, Hr.out⟩) ?_)
      | (go_at_call 60; refine hchk.mono ?_; rintro e' w10 ⟨rfl, bel10⟩; have B10 := B9.go bel10)
      | (refine wpList_load_mid rfl 57 (.tmp 7) rfl g7 0 rfl (pCs p.a p.n ++ pCs r.a r.n) _ (row_load (B9.all.get 0 (x := (g7, oPP ⟨p, r⟩)) rfl)) Tryz.underlying57 rfl (info57 (p := ⟨p, r⟩) ⟨Hp.out, Hr.out⟩) ?_)
      | (refine wpList_store_src rfl (.tmp 51) (.tmp 49) rfl (g := g7) (q := ⟨p, anyP (pfam p)⟩) (r := r) rfl rfl (B8.all.get 0 (x := (g7, oPP ⟨p, anyP (pfam p)⟩)) rfl) ⟨Hp.out, hq.out⟩ Hr.out ?_; have B9 := (B8.set 0 rfl (pCs p.a p.n ++ pCs r.a r.n).toArray : Bz w [(g7, oPP ⟨p, r⟩), (V1.heap.size, oP p), (g, .cells (strs [x, ⟨#[102, 114, 111, 109]⟩, z]).toArray 9), (w.heap.size, oPP zeroPr)] _))
      | (go_at_call 56; refine (c2 E7).mono ?_; rintro e' w8 ⟨rfl, bel8⟩; have B8 := hC.go bel8))
    refine bodyPost_ret (v := .tuple #[vPP zeroPr, .int .i64 21]) ?_ rfl ⟨rfl, below_row B10.bel (Nat.le_refl _) _⟩
    exact results_cell_tmp rfl _ _ rfl (BoxPP.run (p := zeroPr) (setRow_heap _ _ _ _ _ _ (B10.all.get 3 (x := (w.heap.size, oPP zeroPr)) rfl)) zeroPr_fit).2.2 rfl
set_option maxRecDepth 100000 in
set_option maxHeartbeats 3200000 in
theorem pair_ok3 {w : World} (E : Env w) {s : ByteArray} (hs : s.size < 4294967281) {x z : ByteArray} (hx : x.size < 4294967281) (hz : z.size < 4294967281) (hsp : pieces s ⟨#[32]⟩ = [x, ⟨#[102, 114, 111, 109]⟩, z]) {p : Pf} (hp : p.ok) (hpp : parsePS x = (p, 0)) {r : Pf} (hr : r.ok) (hpr : parsePS z = (r, 0)) (hc : chkPP ⟨p, r⟩ = true) : Calls Tryz.prog 58 #[.string s] w fun e' w' => PairR ⟨p, r⟩ 0 e' ∧ Below w.heap.size w w' := by
  have Hp := Lib.hid hp
  have hq := Lib.hid (any_ok (pfam p))
  have c1 : ∀ {W : World}, Env W → Calls Tryz.prog 56 #[.string x] W fun e' w' => e' = .returned (.tuple #[vPf p, .int .i64 0]) ∧ Below W.heap.size W w' := fun EW => pp_is EW hx hpp
  have B0 := ((Bz.start w).alloc (oPP zeroPr) rfl : Bz w [(w.heap.size, oPP zeroPr)] _)
  have E0 := B0.env E
  clear hpp
  have hchk : ∀ {W : World}, Calls Tryz.prog 60 #[.agg (pCs p.a p.n ++ pCs r.a r.n).toArray] W fun e w' => e = .returned (.int .i64 0) ∧ Below W.heap.size W w' := fun {W} => chkPP_call (p := ⟨p, r⟩) ⟨hp, hr⟩ (by rw [hc]; rfl)
  have Hr := Lib.hid hr
  have c2 : ∀ {W : World}, Env W → Calls Tryz.prog 56 #[.string z] W fun e' w' => e' = .returned (.tuple #[vPf r, .int .i64 0]) ∧ Below W.heap.size W w' := fun EW => pp_is EW hz hpr
  clear hr hpr hc
  go_enter Tryz.func58, Tryz.ntmps58
  go_upto_region 4 with (go_at_call 99; refine (split_op (n := 3) E0 hs (by decide) hsp rfl).mono ?_; rintro e' w1 ⟨⟨g, rfl, hg, hrow⟩, bel⟩; have B1 := B0.more bel hg hrow; have hc1 : w1.cell? ⟨g, 1, none⟩ = some (.string ⟨#[102, 114, 111, 109]⟩) := (row_cell hrow).trans rfl)
  clear hp B0 E0
  go_wp2_with (refine wpList_quiet_take (C := Bz w [(g, .cells (strs [x, ⟨#[102, 114, 111, 109]⟩, z]).toArray 9), (w.heap.size, oPP zeroPr)]) 9 6 (by rfl) B1 ?_)
  (try simp only [List.take_succ_cons, List.take_zero, List.drop_succ_cons, List.drop_zero])
  refine wpQuiet_hide ?_
  intro lq hlq
  refine wpQuiet_step_h hlq ?_
  clear hlq lq
  intro K lq hlq hK
  refine wanted_go (by rfl) ?_
  refine ⟨?_, fun W hW => ?_, ?_⟩
  rotate_left
  · skip
    go_simp
    with_reducible rfl
  refine hK _ ?_
  clear hK K
  (try simp only [Act.put, List.setIfInBounds_toArray, List.set_cons_zero, List.set_cons_succ])
  refine wpQuiet_step_h hlq ?_
  clear hlq lq
  intro K lq hlq hK
  refine wanted_go (by rfl) ?_
  refine ⟨.string x, fun W hW => ?_, ?_⟩
  · skip
    exact quiet_load 9 _ rfl rfl (ldStr (hW.all.get 0 (x := (g, .cells (strs [x, ⟨#[102, 114, 111, 109]⟩, z]).toArray 9)) rfl) 0 rfl)
  refine hK _ ?_
  clear hK K
  (try simp only [Act.put, List.setIfInBounds_toArray, List.set_cons_zero, List.set_cons_succ])
  refine wpQuiet_step_h hlq ?_
  clear hlq lq
  intro K lq hlq hK
  refine wanted_go (by rfl) ?_
  refine ⟨.tuple #[vPf p, .int .i64 0], fun W hW => ?_, ?_⟩
  · go_simp
    have E' := hW.env E
    exact (c1 E').mono fun e W2 hc2 => ⟨hc2.1, hW.go hc2.2⟩
  refine hK _ ?_
  clear hK K
  (try simp only [Act.put, List.setIfInBounds_toArray, List.set_cons_zero, List.set_cons_succ])
  refine wpQuiet_step_h hlq ?_
  clear hlq lq
  intro K lq hlq hK
  refine wanted_go (by rfl) ?_
  refine ⟨?_, fun W hW => ?_, ?_⟩
  rotate_left
  · skip
    go_simp
    with_reducible rfl
  refine hK _ ?_
  clear hK K
  (try simp only [Act.put, List.setIfInBounds_toArray, List.set_cons_zero, List.set_cons_succ])
  refine wpQuiet_step_h hlq ?_
  clear hlq lq
  intro K lq hlq hK
  refine wanted_go (by rfl) ?_
  refine ⟨?_, fun W hW => ?_, ?_⟩
  rotate_left
  · skip
    go_simp
    with_reducible rfl
  refine hK _ ?_
  clear hK K
  (try simp only [Act.put, List.setIfInBounds_toArray, List.set_cons_zero, List.set_cons_succ])
  refine wpQuiet_step_h hlq ?_
  clear hlq lq
  intro K lq hlq hK
  refine wanted_go (by rfl) ?_
  refine ⟨?_, fun W hW => ?_, ?_⟩
  rotate_left
  · skip
    go_simp
    with_reducible rfl
  refine hK _ ?_
  clear hK K
  (try simp only [Act.put, List.setIfInBounds_toArray, List.set_cons_zero, List.set_cons_succ])
  refine wpQuiet_nil_h hlq ?_
  clear hlq lq B1
  intro V1 hV2
  refine wpList_new rfl rfl rfl rfl z55 rfl (by rfl) (by rfl) (info55 Hp.out.1 _) (sizeP' Hp.out) (pCs_one _ _) ?_
  (try simp only [Act.put, List.setIfInBounds_toArray, List.set_cons_zero, List.set_cons_succ])
  have hB3 : Bz w [(V1.heap.size, oP p), (g, .cells (strs [x, ⟨#[102, 114, 111, 109]⟩, z]).toArray 9), (w.heap.size, oPP zeroPr)] (V1.alloc (oP p)) := hV2.alloc (oP p) rfl
  clear hV2
  refine wpList_quiet (C := Bz w [(V1.heap.size, oP p), (g, .cells (strs [x, ⟨#[102, 114, 111, 109]⟩, z]).toArray 9), (w.heap.size, oPP zeroPr)]) 1 (by rfl) hB3 ?_
  refine wpQuiet_hide ?_
  intro lq hlq
  refine wpQuiet_step_h hlq ?_
  clear hlq lq
  intro K lq hlq hK
  refine wanted_go (by rfl) ?_
  refine ⟨?_, fun W hW => ?_, ?_⟩
  rotate_left
  · skip
    go_simp
    with_reducible rfl
  refine hK _ ?_
  clear hK K
  (try simp only [Act.put, List.setIfInBounds_toArray, List.set_cons_zero, List.set_cons_succ])
  refine wpQuiet_nil_h hlq ?_
  clear hlq lq hB3
  intro V4 hV5
  go_upto_region 5 with (fail)
  go_cut [7] from 32 to 36 (fun x7 W => ∃ g7, x7 = .pointer (some ⟨g7, 0, none⟩) ∧ Bz w [(g7, oPP ⟨p, anyP (pfam p)⟩), (V1.heap.size, oP p), (g, .cells (strs [x, ⟨#[102, 114, 111, 109]⟩, z]).toArray 9), (w.heap.size, oPP zeroPr)] W)
  case first =>
    refine wp_region_held_drew (S := Bz w [(V1.heap.size, oP p), (g, .cells (strs [x, ⟨#[102, 114, 111, 109]⟩, z]).toArray 9), (w.heap.size, oPP zeroPr)]) (by kernel_rfl) (hV5.drew) (fun hHeld => ?_)
    refine wpAnyH_take (i := 0) (oi := { dst := (some 32), op := (Op.load 55 (Operand.tmp 5)), type := 55, pos := "addr.go:281", after := #[], guard := none }) (v := vPf p) rfl (by kernel_rfl) (by kernel_rfl) (by kernel_rfl) (fun _ _ _ h => h) (Or.inl ⟨by rfl, fun W hW => ?_⟩) (by assumption) ?_
    · obtain ⟨q1, q2, q3⟩ := BoxP.run hW.all.1 Hp.out.1
      exact exec_load 55 _ rfl rfl q3
    (try simp only [Act.put, List.setIfInBounds_toArray, List.set_cons_zero, List.set_cons_succ])
    refine wpAnyH_take (i := 1) (oi := { dst := (some 33), op := (Op.load 55 (Operand.tmp 5)), type := 55, pos := "addr.go:281", after := #[], guard := none }) (v := vPf p) rfl (by kernel_rfl) (by kernel_rfl) (by kernel_rfl) (fun _ _ _ h => h) (Or.inl ⟨by rfl, fun W hW => ?_⟩) (by assumption) ?_
    · obtain ⟨q1, q2, q3⟩ := BoxP.run hW.all.1 Hp.out.1
      exact exec_load 55 _ rfl rfl q3
    (try simp only [Act.put, List.setIfInBounds_toArray, List.set_cons_zero, List.set_cons_succ])
    refine wpAnyH_ready (rs := [2, 5]) (by kernel_rfl) (by simp) ?_
    refine AllReadyH.cons (o := { dst := (some 34), op := (Op.call { callee := (Callee.value (Operand.func 54)), args := #[(Operand.tmp 33)], argTypes := #[55] }), type := 3, pos := "addr.go:281", after := #[{ on := 1, ground := Ground.data }], guard := none }) rfl (fun K hK => ?_) (AllReadyH.cons (o := { dst := (some 7), op := (Op.alloc 57), type := 0, pos := "addr.go:281", after := #[], guard := none }) rfl (fun K hK => ?_) AllReadyH.nil)
    · go_simp
      refine (pfam_any Hp.out).mono ?_
      rintro e wA ⟨rfl, bel⟩
      refine hK.out _ _ ?_ (fun hHeld => ?_)
      · exact hHeld.go bel
      clear hK K
      (try simp only [Act.put, List.setIfInBounds_toArray, List.set_cons_zero, List.set_cons_succ])
      refine wpAnyH_ready (rs := [3, 5]) (by kernel_rfl) (by simp) ?_
      refine AllReadyH.cons (o := { dst := (some 35), op := (Op.call { callee := (Callee.value (Operand.func 55)), args := #[(Operand.tmp 34)], argTypes := #[3] }), type := 55, pos := "addr.go:281", after := #[{ on := 2, ground := Ground.data }, { on := 2, ground := Ground.chain }], guard := none }) rfl (fun K hK => ?_) (AllReadyH.cons (o := { dst := (some 7), op := (Op.alloc 57), type := 0, pos := "addr.go:281", after := #[], guard := none }) rfl (fun K hK => ?_) AllReadyH.nil)
      · go_simp
        refine (any_any (pfam p)).mono ?_
        rintro e wB ⟨rfl, bel⟩
        refine hK.out _ _ ?_ (fun hHeld => ?_)
        · exact hHeld.go bel
        clear hK K
        (try simp only [Act.put, List.setIfInBounds_toArray, List.set_cons_zero, List.set_cons_succ])
        refine wpAnyH_take (i := 4) (oi := { dst := (some 36), op := (Op.build 57 #[(0, (Operand.tmp 32)), (1, (Operand.tmp 35))]), type := 57, pos := "addr.go:281", after := #[{ on := 0, ground := Ground.data }, { on := 3, ground := Ground.data }], guard := none }) (v := .agg (pCs p.a p.n ++ pCs (anyP (pfam p)).a (anyP (pfam p)).n).toArray) rfl (by kernel_rfl) (by kernel_rfl) (by kernel_rfl) (fun _ _ _ h => h) (Or.inl ⟨by rfl, fun W hW => ?_⟩) (by assumption) ?_
        · exact exec_build2 (x := .tmp 32) (y := .tmp 35) rfl rfl rfl (built57 Hp.out.1 hq.out.1)
        (try simp only [Act.put, List.setIfInBounds_toArray, List.set_cons_zero, List.set_cons_succ])
        refine wpAnyH_ready (rs := [5]) (by kernel_rfl) (by simp) ?_
        refine AllReadyH.cons (o := { dst := (some 7), op := (Op.alloc 57), type := 0, pos := "addr.go:281", after := #[], guard := none }) rfl (fun K hK => ?_) AllReadyH.nil
        have hZ := hHeld.alloc (oPP zeroPr) rfl
        go_simp
        refine hK.out _ _ ?_ (fun hHeld => ?_)
        · exact hHeld.go ((Below.refl _ _).alloc (Nat.le_refl _) _)
        clear hK K
        (try simp only [Act.put, List.setIfInBounds_toArray, List.set_cons_zero, List.set_cons_succ])
        refine wpAnyH_ready (rs := [6]) (by kernel_rfl) (by simp) ?_
        refine AllReadyH.cons (o := { dst := none, op := (Op.store 57 (Operand.tmp 7) (Operand.tmp 36)), type := 0, pos := "addr.go:281", after := #[{ on := 5, ground := Ground.data }, { on := 4, ground := Ground.data }, { on := 3, ground := Ground.chain }, { on := 0, ground := Ground.phase }, { on := 1, ground := Ground.phase }, { on := 2, ground := Ground.phase }, { on := 3, ground := Ground.phase }, { on := 4, ground := Ground.phase }, { on := 5, ground := Ground.phase }], guard := none }) rfl (fun K hK => ?_) AllReadyH.nil
        have hF := hZ.set 0 rfl (pCs p.a p.n ++ pCs (anyP (pfam p)).a (anyP (pfam p)).n).toArray
        refine wanted_go (by rfl) ?_
        refine wp_store_row 57 (.tmp 7) (.tmp 36) rfl _ _ rfl rfl 57 _ hZ.all.1 (info57 (p := ⟨p, anyP (pfam p)⟩) ⟨Hp.out, hq.out⟩) ((pp_size zeroPr_fit).trans (pp_size (p := ⟨p, anyP (pfam p)⟩) ⟨Hp.out, hq.out⟩).symm) (pp_one ⟨p, anyP (pfam p)⟩) ?_
        refine hK.out _ _ ?_ (fun hHeld => ?_)
        · exact hF.tail
        clear hK K
        (try simp only [Act.put, List.setIfInBounds_toArray, List.set_cons_zero, List.set_cons_succ])
        refine wpAnyH_done (by kernel_rfl) ?_ _
        go_wp2_with fail
        go_meet
        exact ⟨_, rfl, hF⟩
      · have hZ := hHeld.alloc (oPP zeroPr) rfl
        go_simp
        refine hK.out _ _ ?_ (fun hHeld => ?_)
        · exact hHeld.go ((Below.refl _ _).alloc (Nat.le_refl _) _)
        clear hK K
        (try simp only [Act.put, List.setIfInBounds_toArray, List.set_cons_zero, List.set_cons_succ])
        refine wpAnyH_ready (rs := [3]) (by kernel_rfl) (by simp) ?_
        refine AllReadyH.cons (o := { dst := (some 35), op := (Op.call { callee := (Callee.value (Operand.func 55)), args := #[(Operand.tmp 34)], argTypes := #[3] }), type := 55, pos := "addr.go:281", after := #[{ on := 2, ground := Ground.data }, { on := 2, ground := Ground.chain }], guard := none }) rfl (fun K hK => ?_) AllReadyH.nil
        go_simp
        refine (any_any (pfam p)).mono ?_
        rintro e wB ⟨rfl, bel⟩
        replace hZ := hZ.go bel
        refine hK.out _ _ ?_ (fun hHeld => ?_)
        · exact hHeld.go bel
        clear hK K
        (try simp only [Act.put, List.setIfInBounds_toArray, List.set_cons_zero, List.set_cons_succ])
        refine wpAnyH_take (i := 4) (oi := { dst := (some 36), op := (Op.build 57 #[(0, (Operand.tmp 32)), (1, (Operand.tmp 35))]), type := 57, pos := "addr.go:281", after := #[{ on := 0, ground := Ground.data }, { on := 3, ground := Ground.data }], guard := none }) (v := .agg (pCs p.a p.n ++ pCs (anyP (pfam p)).a (anyP (pfam p)).n).toArray) rfl (by kernel_rfl) (by kernel_rfl) (by kernel_rfl) (fun _ _ _ h => h) (Or.inl ⟨by rfl, fun W hW => ?_⟩) (by assumption) ?_
        · exact exec_build2 (x := .tmp 32) (y := .tmp 35) rfl rfl rfl (built57 Hp.out.1 hq.out.1)
        (try simp only [Act.put, List.setIfInBounds_toArray, List.set_cons_zero, List.set_cons_succ])
        refine wpAnyH_ready (rs := [6]) (by kernel_rfl) (by simp) ?_
        refine AllReadyH.cons (o := { dst := none, op := (Op.store 57 (Operand.tmp 7) (Operand.tmp 36)), type := 0, pos := "addr.go:281", after := #[{ on := 5, ground := Ground.data }, { on := 4, ground := Ground.data }, { on := 3, ground := Ground.chain }, { on := 0, ground := Ground.phase }, { on := 1, ground := Ground.phase }, { on := 2, ground := Ground.phase }, { on := 3, ground := Ground.phase }, { on := 4, ground := Ground.phase }, { on := 5, ground := Ground.phase }], guard := none }) rfl (fun K hK => ?_) AllReadyH.nil
        have hF := hZ.set 0 rfl (pCs p.a p.n ++ pCs (anyP (pfam p)).a (anyP (pfam p)).n).toArray
        refine wanted_go (by rfl) ?_
        refine wp_store_row 57 (.tmp 7) (.tmp 36) rfl _ _ rfl rfl 57 _ hZ.all.1 (info57 (p := ⟨p, anyP (pfam p)⟩) ⟨Hp.out, hq.out⟩) ((pp_size zeroPr_fit).trans (pp_size (p := ⟨p, anyP (pfam p)⟩) ⟨Hp.out, hq.out⟩).symm) (pp_one ⟨p, anyP (pfam p)⟩) ?_
        refine hK.out _ _ ?_ (fun hHeld => ?_)
        · exact hF.tail
        clear hK K
        (try simp only [Act.put, List.setIfInBounds_toArray, List.set_cons_zero, List.set_cons_succ])
        refine wpAnyH_done (by kernel_rfl) ?_ _
        go_wp2_with fail
        go_meet
        exact ⟨_, rfl, hF⟩
    · have hZ := hHeld.alloc (oPP zeroPr) rfl
      go_simp
      refine hK.out _ _ ?_ (fun hHeld => ?_)
      · exact hHeld.go ((Below.refl _ _).alloc (Nat.le_refl _) _)
      clear hK K
      (try simp only [Act.put, List.setIfInBounds_toArray, List.set_cons_zero, List.set_cons_succ])
      refine wpAnyH_ready (rs := [2]) (by kernel_rfl) (by simp) ?_
      refine AllReadyH.cons (o := { dst := (some 34), op := (Op.call { callee := (Callee.value (Operand.func 54)), args := #[(Operand.tmp 33)], argTypes := #[55] }), type := 3, pos := "addr.go:281", after := #[{ on := 1, ground := Ground.data }], guard := none }) rfl (fun K hK => ?_) AllReadyH.nil
      go_simp
      refine (pfam_any Hp.out).mono ?_
      rintro e wA ⟨rfl, bel⟩
      replace hZ := hZ.go bel
      refine hK.out _ _ ?_ (fun hHeld => ?_)
      · exact hHeld.go bel
      clear hK K
      (try simp only [Act.put, List.setIfInBounds_toArray, List.set_cons_zero, List.set_cons_succ])
      refine wpAnyH_ready (rs := [3]) (by kernel_rfl) (by simp) ?_
      refine AllReadyH.cons (o := { dst := (some 35), op := (Op.call { callee := (Callee.value (Operand.func 55)), args := #[(Operand.tmp 34)], argTypes := #[3] }), type := 55, pos := "addr.go:281", after := #[{ on := 2, ground := Ground.data }, { on := 2, ground := Ground.chain }], guard := none }) rfl (fun K hK => ?_) AllReadyH.nil
      go_simp
      refine (any_any (pfam p)).mono ?_
      rintro e wB ⟨rfl, bel⟩
      replace hZ := hZ.go bel
      refine hK.out _ _ ?_ (fun hHeld => ?_)
      · exact hHeld.go bel
      clear hK K
      (try simp only [Act.put, List.setIfInBounds_toArray, List.set_cons_zero, List.set_cons_succ])
      refine wpAnyH_take (i := 4) (oi := { dst := (some 36), op := (Op.build 57 #[(0, (Operand.tmp 32)), (1, (Operand.tmp 35))]), type := 57, pos := "addr.go:281", after := #[{ on := 0, ground := Ground.data }, { on := 3, ground := Ground.data }], guard := none }) (v := .agg (pCs p.a p.n ++ pCs (anyP (pfam p)).a (anyP (pfam p)).n).toArray) rfl (by kernel_rfl) (by kernel_rfl) (by kernel_rfl) (fun _ _ _ h => h) (Or.inl ⟨by rfl, fun W hW => ?_⟩) (by assumption) ?_
      · exact exec_build2 (x := .tmp 32) (y := .tmp 35) rfl rfl rfl (built57 Hp.out.1 hq.out.1)
      (try simp only [Act.put, List.setIfInBounds_toArray, List.set_cons_zero, List.set_cons_succ])
      refine wpAnyH_ready (rs := [6]) (by kernel_rfl) (by simp) ?_
      refine AllReadyH.cons (o := { dst := none, op := (Op.store 57 (Operand.tmp 7) (Operand.tmp 36)), type := 0, pos := "addr.go:281", after := #[{ on := 5, ground := Ground.data }, { on := 4, ground := Ground.data }, { on := 3, ground := Ground.chain }, { on := 0, ground := Ground.phase }, { on := 1, ground := Ground.phase }, { on := 2, ground := Ground.phase }, { on := 3, ground := Ground.phase }, { on := 4, ground := Ground.phase }, { on := 5, ground := Ground.phase }], guard := none }) rfl (fun K hK => ?_) AllReadyH.nil
      have hF := hZ.set 0 rfl (pCs p.a p.n ++ pCs (anyP (pfam p)).a (anyP (pfam p)).n).toArray
      refine wanted_go (by rfl) ?_
      refine wp_store_row 57 (.tmp 7) (.tmp 36) rfl _ _ rfl rfl 57 _ hZ.all.1 (info57 (p := ⟨p, anyP (pfam p)⟩) ⟨Hp.out, hq.out⟩) ((pp_size zeroPr_fit).trans (pp_size (p := ⟨p, anyP (pfam p)⟩) ⟨Hp.out, hq.out⟩).symm) (pp_one ⟨p, anyP (pfam p)⟩) ?_
      refine hK.out _ _ ?_ (fun hHeld => ?_)
      · exact hF.tail
      clear hK K
      (try simp only [Act.put, List.setIfInBounds_toArray, List.set_cons_zero, List.set_cons_succ])
      refine wpAnyH_done (by kernel_rfl) ?_ _
      go_wp2_with fail
      go_meet
      exact ⟨_, rfl, hF⟩
  case rest =>
    obtain ⟨g7, rfl, hC⟩ := hcut
    have E7 := hC.env E
    have hcz : wc.cell? ⟨g, 2, none⟩ = some (.string z) := (row_cell (hC.all.get 2 (x := (g, .cells (strs [x, ⟨#[102, 114, 111, 109]⟩, z]).toArray 9)) rfl)).trans rfl
    go_wp2_with (first
      | (refine wpList_store_row rfl 57 (.tmp 2) (.tmp 60) rfl w.heap.size (pCs p.a p.n ++ pCs r.a r.n).toArray rfl rfl 57 _ (B10.all.get 3 (x := (w.heap.size, oPP zeroPr)) rfl) (info57 (p := ⟨p, r⟩) ⟨Hp.out, Hr.out⟩) ((pp_size zeroPr_fit).trans (pp_size (p := ⟨p, r⟩) ⟨Hp.out, Hr.out⟩).symm) (pp_one ⟨p, r⟩) ?_)
      | (refine wpList_load_mid rfl 57 (.tmp 7) rfl g7 0 rfl (pCs p.a p.n ++ pCs r.a r.n) _ (row_load (B10.all.get 0 (x := (g7, oPP ⟨p, r⟩)) rfl)) Tryz.underlying57 rfl (info57 (p := ⟨p, r⟩) ⟨Hp.out, Hr.out⟩) ?_)
      | (go_at_call 60; refine hchk.mono ?_; rintro e' w10 ⟨rfl, bel10⟩; have B10 := B9.go bel10)
      | (refine wpList_load_mid rfl 57 (.tmp 7) rfl g7 0 rfl (pCs p.a p.n ++ pCs r.a r.n) _ (row_load (B9.all.get 0 (x := (g7, oPP ⟨p, r⟩)) rfl)) Tryz.underlying57 rfl (info57 (p := ⟨p, r⟩) ⟨Hp.out, Hr.out⟩) ?_)
      | (refine wpList_store_src rfl (.tmp 51) (.tmp 49) rfl (g := g7) (q := ⟨p, anyP (pfam p)⟩) (r := r) rfl rfl (B8.all.get 0 (x := (g7, oPP ⟨p, anyP (pfam p)⟩)) rfl) ⟨Hp.out, hq.out⟩ Hr.out ?_; have B9 := (B8.set 0 rfl (pCs p.a p.n ++ pCs r.a r.n).toArray : Bz w [(g7, oPP ⟨p, r⟩), (V1.heap.size, oP p), (g, .cells (strs [x, ⟨#[102, 114, 111, 109]⟩, z]).toArray 9), (w.heap.size, oPP zeroPr)] _))
      | (go_at_call 56; refine (c2 E7).mono ?_; rintro e' w8 ⟨rfl, bel8⟩; have B8 := hC.go bel8))
    refine bodyPost_ret (v := .tuple #[vPP ⟨p, r⟩, .int .i64 0]) ?_ rfl ⟨rfl, below_row B10.bel (Nat.le_refl _) _⟩
    exact results_cell_tmp rfl _ _ rfl (BoxPP.run (p := ⟨p, r⟩) (setRow_heap _ _ _ _ _ _ (B10.all.get 3 (x := (w.heap.size, oPP zeroPr)) rfl)) ⟨Hp.out, Hr.out⟩).2.2 rfl
set_option maxRecDepth 100000 in
set_option maxHeartbeats 3200000 in
theorem pair_many {w : World} (E : Env w) {s : ByteArray} (hs : s.size < 4294967281) {L : List ByteArray} {n : Nat} (hsp : pieces s ⟨#[32]⟩ = L) (hn : L.length = n) (h1 : n ≠ 1) (h3 : n ≠ 3) : Calls Tryz.prog 58 #[.string s] w fun e' w' => PairR zeroPr 20 e' ∧ Below w.heap.size w w' := by
  have q1 : ((n : Int) == 1) = false := by simp; omega
  have q2 : ((n : Int) == 3) = false := by simp; omega
  have q3 : ((n : Int) != 1) = true := by simp; omega
  have q4 : ((n : Int) != 3) = true := by simp; omega
  have B0 := ((Bz.start w).alloc (oPP zeroPr) rfl : Bz w [(w.heap.size, oPP zeroPr)] _)
  have E0 := B0.env E
  go_enter Tryz.func58, Tryz.ntmps58
  go_wp2_with (first
    | (refine wpList_store_row rfl 57 (.tmp 2) (.tmp 24) rfl w.heap.size (pCs zeroA 0 ++ pCs zeroA 0).toArray rfl rfl 57 _ (B1.all.get 1 (x := (w.heap.size, oPP zeroPr)) rfl) (info57 zeroPr_fit) rfl (pp_one zeroPr) ?_)
    | (go_at_call 99; refine (split_op (l := L) (n := n) E0 hs (by decide) hsp hn).mono ?_; rintro e' w1 ⟨⟨g, rfl, hg, hrow⟩, bel⟩; have B1 := B0.more bel hg hrow))
  refine bodyPost_ret (v := .tuple #[vPP zeroPr, .int .i64 20]) ?_ rfl ⟨rfl, below_row B1.bel (Nat.le_refl _) _⟩
  exact results_cell_tmp rfl _ _ rfl (BoxPP.run (p := zeroPr) (setRow_heap _ _ _ _ _ _ (B1.all.get 1 (x := (w.heap.size, oPP zeroPr)) rfl)) zeroPr_fit).2.2 rfl
set_option maxRecDepth 100000 in
set_option maxHeartbeats 3200000 in
theorem pair_word {w : World} (E : Env w) {s : ByteArray} (hs : s.size < 4294967281) {x y z : ByteArray} (hsp : pieces s ⟨#[32]⟩ = [x, y, z]) (hy : y ≠ ⟨#[102, 114, 111, 109]⟩) : Calls Tryz.prog 58 #[.string s] w fun e' w' => PairR zeroPr 20 e' ∧ Below w.heap.size w w' := by
  have q1 : (y.toList == [102, 114, 111, 109]) = false := by
    rw [beq_eq_false_iff_ne]; intro e; exact hy (ba_eq (by rw [← ByteArray.toList_eq, e]))
  have q2 : (y.toList != [102, 114, 111, 109]) = true := by unfold bne; rw [q1]; rfl
  replace hy := Lib.hid hy
  have B0 := ((Bz.start w).alloc (oPP zeroPr) rfl : Bz w [(w.heap.size, oPP zeroPr)] _)
  have E0 := B0.env E
  go_enter Tryz.func58, Tryz.ntmps58
  go_wp2_with (first
    | (refine wpList_store_row rfl 57 (.tmp 2) (.tmp 24) rfl w.heap.size (pCs zeroA 0 ++ pCs zeroA 0).toArray rfl rfl 57 _ (B1.all.get 1 (x := (w.heap.size, oPP zeroPr)) rfl) (info57 zeroPr_fit) rfl (pp_one zeroPr) ?_)
    | (go_at_call 99; refine (split_op (l := [x, y, z]) (n := 3) E0 hs (by decide) hsp rfl).mono ?_; rintro e' w1 ⟨⟨g, rfl, hg, hrow⟩, bel⟩; have B1 := B0.more bel hg hrow; have hc1 : w1.cell? ⟨g, 1, none⟩ = some (.string y) := (row_cell hrow).trans rfl))
  refine bodyPost_ret (v := .tuple #[vPP zeroPr, .int .i64 20]) ?_ rfl ⟨rfl, below_row B1.bel (Nat.le_refl _) _⟩
  exact results_cell_tmp rfl _ _ rfl (BoxPP.run (p := zeroPr) (setRow_heap _ _ _ _ _ _ (B1.all.get 1 (x := (w.heap.size, oPP zeroPr)) rfl)) zeroPr_fit).2.2 rfl
end Go.Proofs.YtnljjlaececnkaaGreatDoor
/-
  ParsePair of any text, as one answer; what PrintPair lays is read. Condition: the variables hold what their initialisers laid; a text is no longer than memory has room for.
-/
namespace Go.Proofs.YtnljjlaececnkaaGreatDoor
open Go.RowKit
set_option linter.unusedVariables false
set_option linter.unusedSimpArgs false
theorem wf_small {n : Int} (h0 : 0 ≤ n) (h1 : n ≤ 9223372036854775807) : (Lit.int .i64 n).wf = true := by
  exact wf_i64 ⟨by omega, h1⟩
theorem parsePS_ok (s : ByteArray) : (parsePS s).1.ok := by
  unfold parsePS
  split
  · rename_i p hp
    split
    · unfold rawS at hp
      split at hp
      rename_i l r g hcut
      split at hp
      · rename_i n hn
        obtain ⟨n0, n1⟩ := decS_rng hn
        split at hp
        · rename_i a ha
          cases hp
          exact ⟨quadS_ok ha, wf_small (by simp; omega) (by simp; omega)⟩
        · split at hp
          · rename_i a ha
            cases hp
            exact ⟨colS_ok ha, wf_small (by simp; omega) (by simp; omega)⟩
          · cases hp
      · cases hp
    · exact zeroP_ok
  · exact zeroP_ok
theorem parsePS_chk {s : ByteArray} {p : Pf} (h : parsePS s = (p, 0)) : chk p = true := by
  unfold parsePS at h
  split at h
  · split at h
    · rename_i hc
      cases h; exact hc
    · cases h
  · cases h
theorem one_chk {p : Pf} (h : chk p = true) : chkPP ⟨p, anyP (pfam p)⟩ = true := by
  have h4 : chk (anyP 4) = true ∧ pfam (anyP 4) = 4 := by decide +kernel
  have h6 : chk (anyP 6) = true ∧ pfam (anyP 6) = 6 := by decide +kernel
  rcases pfam_or p with e | e
  · unfold chkPP; simp only [e]; rw [h, h4.1, h4.2]; rfl
  · unfold chkPP; simp only [e]; rw [h, h6.1, h6.2]; rfl
def pair1 (x : ByteArray) : Pr × Int := let d := parsePS x; if d.2 = 0 then (⟨d.1, anyP (pfam d.1)⟩, 0) else (zeroPr, d.2)
def pair3 (x z : ByteArray) : Pr × Int :=
  let d := parsePS x; let r := parsePS z
  if d.2 = 0 then (if r.2 = 0 then (if chkPP ⟨d.1, r.1⟩ then (⟨d.1, r.1⟩, 0) else (zeroPr, 21)) else (zeroPr, r.2)) else (zeroPr, d.2)
/-- ParsePair's answer. -/
def parsePPS (s : ByteArray) : Pr × Int :=
  match cutB 32 s with
  | [x] => pair1 x
  | [x, y, z] => if y = fromB then pair3 x z else (zeroPr, 20)
  | _ => (zeroPr, 20)
/-- ParsePair. -/
theorem pair_any {w : World} (E : Env w) {s : ByteArray} (hs : s.size < 4294967281) : Calls Tryz.prog 58 #[.string s] w fun e w' => PairR (parsePPS s).1 (parsePPS s).2 e ∧ Below w.heap.size w w' := by
  have hsz : ∀ t ∈ pieces s ⟨#[32]⟩, t.size < 4294967281 := fun t ht => by have := (pieces_sum 32 s.size s (Nat.le_refl _)).1 t ht; omega
  have hp : pieces s ⟨#[32]⟩ = cutB 32 s := pieces_eq 32 s
  have hm : ∀ L : List ByteArray, pieces s ⟨#[32]⟩ = L → (L.length ≠ 1) → (L.length ≠ 3) → Calls Tryz.prog 58 #[.string s] w fun e w' => PairR zeroPr 20 e ∧ Below w.heap.size w w' := fun L hL h1 h3 => pair_many E hs hL rfl h1 h3
  unfold parsePPS
  rw [← hp]
  generalize hL : pieces s ⟨#[32]⟩ = L at *
  match L with
  | [] => exact hm [] rfl (by simp) (by simp)
  | [x] =>
    have hx := hsz x (by simp)
    obtain ⟨p, e, hpe⟩ : ∃ p e, parsePS x = (p, e) := ⟨_, _, rfl⟩
    have ok := parsePS_ok x
    show Calls _ _ _ _ fun e w' => PairR (pair1 x).1 (pair1 x).2 e ∧ _
    unfold pair1
    rw [hpe] at ok ⊢
    simp only at ok ⊢
    by_cases he : e = 0
    · subst he
      rw [if_pos rfl]
      have hxs : x = s := by
        have h1 : cutB 32 s = [x] := hp.symm
        unfold cutB at h1
        have h2 : cutL 32 s.data.toList = [x.data.toList] := by
          cases hc : cutL 32 s.data.toList with
          | nil => exact absurd hc (cutL_ne _ _)
          | cons a l =>
            rw [hc] at h1
            simp at h1
            obtain ⟨h1, rfl⟩ := h1
            rw [← h1]
        have hn : ∀ c ∈ s.data.toList, c ≠ 32 := by
          intro c hc e
          subst e
          obtain ⟨i, hi, he⟩ := List.mem_iff_getElem.1 hc
          have key : ∀ l : List UInt8, 32 ∈ l → 1 < (cutL 32 l).length := by
            intro l
            induction l with
            | nil => intro h; cases h
            | cons a l ih =>
              intro h
              unfold cutL
              split
              · have := List.length_pos_iff.2 (cutL_ne 32 l); simp; omega
              · rename_i ha
                have := ih ((List.mem_cons.1 h).elim (fun h => absurd h.symm ha) id)
                cases hq : cutL 32 l with
                | nil => rw [hq] at this; simp at this
                | cons b m => rw [hq] at this; simpa [glue] using this
          have := key _ hc
          rw [h2] at this; simp at this
        rw [cutL_miss hn] at h2
        exact ba_eq (List.cons.inj h2).1.symm
      subst hxs
      exact pair_one E hs hL ok hpe (one_chk (parsePS_chk hpe))
    · rw [if_neg he]
      exact pair_err1 E hs hx hL ok hpe he
  | [x, y] => exact hm [x, y] rfl (by simp) (by simp)
  | [x, y, z] =>
    show Calls _ _ _ _ fun e w' => PairR (if y = fromB then pair3 x z else (zeroPr, 20)).1 (if y = fromB then pair3 x z else (zeroPr, 20)).2 e ∧ _
    by_cases hy : y = fromB
    · rw [if_pos hy]
      subst hy
      have hx := hsz x (by simp)
      have hz := hsz z (by simp)
      obtain ⟨p, e, hpe⟩ : ∃ p e, parsePS x = (p, e) := ⟨_, _, rfl⟩
      obtain ⟨r, f, hrf⟩ : ∃ p e, parsePS z = (p, e) := ⟨_, _, rfl⟩
      have ok := parsePS_ok x
      have ok2 := parsePS_ok z
      unfold pair3
      rw [hpe] at ok ⊢
      rw [hrf] at ok2 ⊢
      simp only at ok ok2 ⊢
      by_cases he : e = 0
      · subst he
        rw [if_pos rfl]
        by_cases hf : f = 0
        · subst hf
          rw [if_pos rfl]
          cases hc : chkPP ⟨p, r⟩ with
          | true => exact pair_ok3 E hs hx hz hL ok hpe ok2 hrf hc
          | false => exact pair_err4 E hs hx hz hL ok hpe ok2 hrf hc
        · rw [if_neg hf]
          exact pair_err2 E hs hx hz hL ok hpe ok2 hrf hf
      · rw [if_neg he]
        exact pair_err3 E hs hx hz hL ok hpe he
    · rw [if_neg hy]
      exact pair_word E hs hL hy
  | x :: y :: z :: u :: l => exact hm (x :: y :: z :: u :: l) rfl (by simp) (by simp)
end Go.Proofs.YtnljjlaececnkaaGreatDoor
