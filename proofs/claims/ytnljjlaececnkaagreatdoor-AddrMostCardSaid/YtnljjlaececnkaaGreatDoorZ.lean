/-
  ParsePair of a text with no space that is right. Condition: the variables hold what their initialisers laid.
-/
import Derived.Test.YtnljjlaececnkaaGreatDoorY
import Derived.Test.YtnljjlaececnkaaGreatDoorU
namespace Go.Proofs.YtnljjlaececnkaaGreatDoor
open Go.RowKit
set_option linter.unusedVariables false
set_option linter.unusedSimpArgs false
theorem exec_build2 {P : Program} {o : Oper} {a : Act} {w : World} {t : TypeId} {i j : Nat} {x y : Operand} {vx vy : Value} (ho : o.op = .build t #[(i, x), (j, y)]) (hx : a.eval x = vx) (hy : a.eval y = vy) {cells : Array Value} (h : P.built t [(i, vx), (j, vy)] = some cells) : (execOp a.eval o).run P w = .ok (.value (.agg cells)) w := by
  have hr := run_build w t #[(i, vx), (j, vy)] cells h
  unfold execOp
  simp only [ho, List.map_toArray, List.map_cons, List.map_nil, hx, hy, Sem.run_bind, hr, Sem.run_pure, Result.andThen_ok]
theorem AllB.lt {W : World} : ∀ {l : List (Nat × Obj)}, AllB W l → ∀ x ∈ l, x.1 < W.heap.size
  | [], _, x, h => by simp at h
  | y :: l, ⟨h, r⟩, x, hx => by
    rcases List.mem_cons.1 hx with rfl | hx
    · exact lt_of_obj h
    · exact AllB.lt r x hx
theorem Bx.ne {w W : World} {N : Nat} {l : List (Nat × Obj)} (h : Bx w N l W) : ∀ x ∈ l, x.1 ≠ W.heap.size := fun x hx => Nat.ne_of_lt (AllB.lt h.2.1 x hx)
theorem Bx.alloc' {w W : World} {N g : Nat} {l : List (Nat × Obj)} (h : Bx w N l W) (o : Obj) (hg : W.heap.size = g) : Bx w N ((g, o) :: l) (W.alloc o) ∧ (∀ x ∈ l, x.1 ≠ g) ∧ N ≤ g := by
  subst hg; exact ⟨h.alloc o, h.ne, h.2.2⟩
def zeroPr : Pr := ⟨zeroP, zeroP⟩
theorem any_ok (f : Int) : (anyP f).ok := by
  unfold anyP; split
  · exact ⟨mapA_ok, rfl⟩
  · exact zeroP_ok
theorem info57 {p : Pr} (hp : p.fit) : (Tryz.prog.info? 57).map (·.size) = some (pCs p.d.a p.d.n ++ pCs p.s.a p.s.n).toArray.size := by
  rw [size57]; simp [pCs_len hp.1.1, pCs_len hp.2.1]
theorem pp_one (p : Pr) : (pCs p.d.a p.d.n ++ pCs p.s.a p.s.n).toArray.all (·.oneCell') = true := by
  have h1 := pCs_one p.d.a p.d.n
  have h2 := pCs_one p.s.a p.s.n
  simp at h1 h2 ⊢
  exact ⟨h1, h2⟩
theorem pp_size {p : Pr} (hp : p.fit) : (pCs p.d.a p.d.n ++ pCs p.s.a p.s.n).toArray.size = 34 := by simp [pCs_len hp.1.1, pCs_len hp.2.1]
theorem zeroPr_fit : zeroPr.fit := ⟨zeroP_ok, zeroP_ok⟩
set_option maxRecDepth 100000 in
set_option maxHeartbeats 1600000 in
theorem pair_one {w : World} (E : Env w) {s : ByteArray} (hs : s.size < 4294967281) (hsp : pieces s ⟨#[32]⟩ = [s]) {p : Pf} (hp : p.ok) (hpp : parsePS s = (p, 0)) (hc : chkPP ⟨p, anyP (pfam p)⟩ = true) : Calls Tryz.prog 58 #[.string s] w fun e w' => e = .returned (.tuple #[vPP ⟨p, anyP (pfam p)⟩, .int .i64 0]) ∧ Below w.heap.size w w' := by
  have Hp := Lib.hid hp
  have Hc := Lib.hid hc
  have hq := Lib.hid (any_ok (pfam p))
  have Hpp := Lib.hid hpp
  clear hp hc hpp
  have B0 := Bx.start1 w (oPP zeroPr)
  have E0 := (E.go B0.1).2
  go_enter Tryz.func58, Tryz.ntmps58
  have hcall : ∀ {W : World}, Env W → Calls Tryz.prog 56 #[.string s] W fun e w' => e = .returned (.tuple #[.agg (pCs p.a p.n).toArray, .int .i64 0]) ∧ Below W.heap.size W w' := fun EW => (pp_any EW hs).mono fun e w' h => ⟨by have := h.1; unfold PPR at this; rw [this, Hpp.out]; rfl, h.2⟩
  have hchk : ∀ {W : World}, Calls Tryz.prog 60 #[.agg (pCs p.a p.n ++ pCs (anyP (pfam p)).a (anyP (pfam p)).n).toArray] W fun e w' => e = .returned (.int .i64 0) ∧ Below W.heap.size W w' := fun {W} => (chkPP_any (p := ⟨p, anyP (pfam p)⟩) ⟨Hp.out, hq.out⟩).mono fun e w' h => ⟨by rw [h.1, Hc.out]; rfl, h.2⟩
  have B1 := B0.alloc (.cells #[.string s] 9)
  have E1 := (E.go B1.1).2
  go_wp2_with (first
    | (go_at_call 99; refine (split_n (n := 1) E0 hs (by decide) hsp rfl).mono ?_; rintro e w1 ⟨rfl, rfl⟩)
    | (go_at_call 56; refine (hcall E1).mono ?_; clear hcall; rintro e w3 ⟨rfl, bel⟩; have B3 := B1.go bel; have B4 := B3.alloc (oP p); clear bel)
    | (refine wpList_store_new rfl 55 (.tmp 5) (.tmp 30) rfl rfl rfl (info55 Hp.out.1 _) (by rw [pCs_size Hp.out.1] <;> rfl) (pCs_one _ _) ?_))
  clear E0 E1 B0 B1 B3
  refine wp_region_held_drew (S := (Bx w w.heap.size [(w3.heap.size, oP p), (w.heap.size, oPP zeroPr)])) (by kernel_rfl) ((show Bx w w.heap.size [(w3.heap.size, oP p), (w.heap.size, oPP zeroPr)] _ from Bx.drew ⟨B4.1, ⟨B4.2.1.1, B4.2.1.2.2.1, trivial⟩, B4.2.2⟩)) (fun hHeld => ?_)
  refine wpAnyH_take (i := 0) (oi := { dst := (some 32), op := (Op.load 55 (Operand.tmp 5)), type := 55, pos := "addr.go:281", after := #[], guard := none }) (v := vPf p) rfl (by kernel_rfl) (by kernel_rfl) (by kernel_rfl) (fun _ _ _ h => h) (Or.inl ⟨by rfl, fun W hW => ?_⟩) (by assumption) ?_
  · obtain ⟨q1, q2, q3⟩ := BoxP.run hW.2.1.1 Hp.out.1
    exact exec_load 55 _ rfl rfl q3
  (try simp only [Act.put, List.setIfInBounds_toArray, List.set_cons_zero, List.set_cons_succ])
  refine wpAnyH_take (i := 1) (oi := { dst := (some 33), op := (Op.load 55 (Operand.tmp 5)), type := 55, pos := "addr.go:281", after := #[], guard := none }) (v := vPf p) rfl (by kernel_rfl) (by kernel_rfl) (by kernel_rfl) (fun _ _ _ h => h) (Or.inl ⟨by rfl, fun W hW => ?_⟩) (by assumption) ?_
  · obtain ⟨q1, q2, q3⟩ := BoxP.run hW.2.1.1 Hp.out.1
    exact exec_load 55 _ rfl rfl q3
  (try simp only [Act.put, List.setIfInBounds_toArray, List.set_cons_zero, List.set_cons_succ])
  refine wpAnyH_ready (rs := [2, 5]) (by kernel_rfl) (by simp) ?_
  refine AllReadyH.cons (o := { dst := (some 34), op := (Op.call { callee := (Callee.value (Operand.func 54)), args := #[(Operand.tmp 33)], argTypes := #[55] }), type := 3, pos := "addr.go:281", after := #[{ on := 1, ground := Ground.data }], guard := none }) rfl (fun K hK => ?_) (AllReadyH.cons (o := { dst := (some 7), op := (Op.alloc 57), type := 0, pos := "addr.go:281", after := #[], guard := none }) rfl (fun K hK => ?_) AllReadyH.nil)
  · go_simp
    refine (pfam_any Hp.out).mono ?_
    rintro e wA ⟨rfl, bel⟩
    refine hK.out _ _ ?_ (fun hHeld => ?_)
    · exact hHeld.go bel
    clear hK K
    (try simp only [Act.put, List.setIfInBounds_toArray, List.set_cons_zero, List.set_cons_succ])
    refine wpAnyH_ready (rs := [3, 5]) (by kernel_rfl) (by simp) ?_
    refine AllReadyH.cons (o := { dst := (some 35), op := (Op.call { callee := (Callee.value (Operand.func 55)), args := #[(Operand.tmp 34)], argTypes := #[3] }), type := 55, pos := "addr.go:281", after := #[{ on := 2, ground := Ground.data }, { on := 2, ground := Ground.chain }], guard := none }) rfl (fun K hK => ?_) (AllReadyH.cons (o := { dst := (some 7), op := (Op.alloc 57), type := 0, pos := "addr.go:281", after := #[], guard := none }) rfl (fun K hK => ?_) AllReadyH.nil)
    · go_simp
      refine (any_any (pfam p)).mono ?_
      rintro e wB ⟨rfl, bel⟩
      refine hK.out _ _ ?_ (fun hHeld => ?_)
      · exact hHeld.go bel
      clear hK K
      (try simp only [Act.put, List.setIfInBounds_toArray, List.set_cons_zero, List.set_cons_succ])
      refine wpAnyH_take (i := 4) (oi := { dst := (some 36), op := (Op.build 57 #[(0, (Operand.tmp 32)), (1, (Operand.tmp 35))]), type := 57, pos := "addr.go:281", after := #[{ on := 0, ground := Ground.data }, { on := 3, ground := Ground.data }], guard := none }) (v := .agg (pCs p.a p.n ++ pCs (anyP (pfam p)).a (anyP (pfam p)).n).toArray) rfl (by kernel_rfl) (by kernel_rfl) (by kernel_rfl) (fun _ _ _ h => h) (Or.inl ⟨by rfl, fun W hW => ?_⟩) (by assumption) ?_
      · exact exec_build2 (x := .tmp 32) (y := .tmp 35) rfl rfl rfl (built57 Hp.out.1 hq.out.1)
      (try simp only [Act.put, List.setIfInBounds_toArray, List.set_cons_zero, List.set_cons_succ])
      refine wpAnyH_ready (rs := [5]) (by kernel_rfl) (by simp) ?_
      refine AllReadyH.cons (o := { dst := (some 7), op := (Op.alloc 57), type := 0, pos := "addr.go:281", after := #[], guard := none }) rfl (fun K hK => ?_) AllReadyH.nil
      obtain ⟨hZ, nZ, lZ⟩ := hHeld.alloc' (oPP zeroPr) rfl
      go_simp
      refine hK.out _ _ ?_ (fun hHeld => ?_)
      · exact hHeld.go ((Below.refl _ _).alloc (Nat.le_refl _) _)
      clear hK K
      (try simp only [Act.put, List.setIfInBounds_toArray, List.set_cons_zero, List.set_cons_succ])
      refine wpAnyH_ready (rs := [6]) (by kernel_rfl) (by simp) ?_
      refine AllReadyH.cons (o := { dst := none, op := (Op.store 57 (Operand.tmp 7) (Operand.tmp 36)), type := 0, pos := "addr.go:281", after := #[{ on := 5, ground := Ground.data }, { on := 4, ground := Ground.data }, { on := 3, ground := Ground.chain }, { on := 0, ground := Ground.phase }, { on := 1, ground := Ground.phase }, { on := 2, ground := Ground.phase }, { on := 3, ground := Ground.phase }, { on := 4, ground := Ground.phase }, { on := 5, ground := Ground.phase }], guard := none }) rfl (fun K hK => ?_) AllReadyH.nil
      have hF := hZ.set1 (pCs p.a p.n ++ pCs (anyP (pfam p)).a (anyP (pfam p)).n).toArray lZ nZ
      refine wanted_go (by rfl) ?_
      refine wp_store_row 57 (.tmp 7) (.tmp 36) rfl _ _ rfl rfl 57 _ hZ.2.1.1 (info57 (p := ⟨p, anyP (pfam p)⟩) ⟨Hp.out, hq.out⟩) ((pp_size zeroPr_fit).trans (pp_size (p := ⟨p, anyP (pfam p)⟩) ⟨Hp.out, hq.out⟩).symm) (pp_one ⟨p, anyP (pfam p)⟩) ?_
      refine hK.out _ _ ?_ (fun hHeld => ?_)
      · exact ⟨hF.1, hF.2.1.2, hF.2.2⟩
      clear hK K
      (try simp only [Act.put, List.setIfInBounds_toArray, List.set_cons_zero, List.set_cons_succ])
      refine wpAnyH_done (by kernel_rfl) ?_ _
      clear hHeld
      go_wp2_with (first | (refine wpList_load_mid rfl 57 (.tmp 7) rfl _ 0 rfl _ _ (row_load hF.2.1.1) Tryz.underlying57 rfl (info57 (p := ⟨p, anyP (pfam p)⟩) ⟨Hp.out, hq.out⟩) ?_) | (go_at_call 60; refine hchk.mono ?_; clear hchk; rintro e w6 ⟨rfl, bel6⟩; have hG := hF.go bel6) | (refine wpList_load_mid rfl 57 (.tmp 7) rfl _ 0 rfl _ _ (row_load hG.2.1.1) Tryz.underlying57 rfl (info57 (p := ⟨p, anyP (pfam p)⟩) ⟨Hp.out, hq.out⟩) ?_) | (refine wpList_store_row rfl 57 (.tmp 2) (.tmp 60) rfl w.heap.size _ rfl rfl 57 _ hG.2.1.2.2.1 (info57 (p := ⟨p, anyP (pfam p)⟩) ⟨Hp.out, hq.out⟩) ((pp_size zeroPr_fit).trans (pp_size (p := ⟨p, anyP (pfam p)⟩) ⟨Hp.out, hq.out⟩).symm) (pp_one ⟨p, anyP (pfam p)⟩) ?_))
      refine bodyPost_ret (v := .tuple #[vPP ⟨p, anyP (pfam p)⟩, .int .i64 0]) ?_ rfl ⟨rfl, below_row hG.1 (Nat.le_refl _) _⟩
      exact results_cell_tmp rfl _ _ rfl (BoxPP.run (p := ⟨p, anyP (pfam p)⟩) (setRow_heap _ _ _ _ _ _ hG.2.1.2.2.1) ⟨Hp.out, hq.out⟩).2.2 rfl
    · obtain ⟨hZ, nZ, lZ⟩ := hHeld.alloc' (oPP zeroPr) rfl
      go_simp
      refine hK.out _ _ ?_ (fun hHeld => ?_)
      · exact hHeld.go ((Below.refl _ _).alloc (Nat.le_refl _) _)
      clear hK K
      (try simp only [Act.put, List.setIfInBounds_toArray, List.set_cons_zero, List.set_cons_succ])
      refine wpAnyH_ready (rs := [3]) (by kernel_rfl) (by simp) ?_
      refine AllReadyH.cons (o := { dst := (some 35), op := (Op.call { callee := (Callee.value (Operand.func 55)), args := #[(Operand.tmp 34)], argTypes := #[3] }), type := 55, pos := "addr.go:281", after := #[{ on := 2, ground := Ground.data }, { on := 2, ground := Ground.chain }], guard := none }) rfl (fun K hK => ?_) AllReadyH.nil
      go_simp
      refine (any_any (pfam p)).mono ?_
      rintro e wB ⟨rfl, bel⟩
      replace hZ := hZ.go bel
      refine hK.out _ _ ?_ (fun hHeld => ?_)
      · exact hHeld.go bel
      clear hK K
      (try simp only [Act.put, List.setIfInBounds_toArray, List.set_cons_zero, List.set_cons_succ])
      refine wpAnyH_take (i := 4) (oi := { dst := (some 36), op := (Op.build 57 #[(0, (Operand.tmp 32)), (1, (Operand.tmp 35))]), type := 57, pos := "addr.go:281", after := #[{ on := 0, ground := Ground.data }, { on := 3, ground := Ground.data }], guard := none }) (v := .agg (pCs p.a p.n ++ pCs (anyP (pfam p)).a (anyP (pfam p)).n).toArray) rfl (by kernel_rfl) (by kernel_rfl) (by kernel_rfl) (fun _ _ _ h => h) (Or.inl ⟨by rfl, fun W hW => ?_⟩) (by assumption) ?_
      · exact exec_build2 (x := .tmp 32) (y := .tmp 35) rfl rfl rfl (built57 Hp.out.1 hq.out.1)
      (try simp only [Act.put, List.setIfInBounds_toArray, List.set_cons_zero, List.set_cons_succ])
      refine wpAnyH_ready (rs := [6]) (by kernel_rfl) (by simp) ?_
      refine AllReadyH.cons (o := { dst := none, op := (Op.store 57 (Operand.tmp 7) (Operand.tmp 36)), type := 0, pos := "addr.go:281", after := #[{ on := 5, ground := Ground.data }, { on := 4, ground := Ground.data }, { on := 3, ground := Ground.chain }, { on := 0, ground := Ground.phase }, { on := 1, ground := Ground.phase }, { on := 2, ground := Ground.phase }, { on := 3, ground := Ground.phase }, { on := 4, ground := Ground.phase }, { on := 5, ground := Ground.phase }], guard := none }) rfl (fun K hK => ?_) AllReadyH.nil
      have hF := hZ.set1 (pCs p.a p.n ++ pCs (anyP (pfam p)).a (anyP (pfam p)).n).toArray lZ nZ
      refine wanted_go (by rfl) ?_
      refine wp_store_row 57 (.tmp 7) (.tmp 36) rfl _ _ rfl rfl 57 _ hZ.2.1.1 (info57 (p := ⟨p, anyP (pfam p)⟩) ⟨Hp.out, hq.out⟩) ((pp_size zeroPr_fit).trans (pp_size (p := ⟨p, anyP (pfam p)⟩) ⟨Hp.out, hq.out⟩).symm) (pp_one ⟨p, anyP (pfam p)⟩) ?_
      refine hK.out _ _ ?_ (fun hHeld => ?_)
      · exact ⟨hF.1, hF.2.1.2, hF.2.2⟩
      clear hK K
      (try simp only [Act.put, List.setIfInBounds_toArray, List.set_cons_zero, List.set_cons_succ])
      refine wpAnyH_done (by kernel_rfl) ?_ _
      clear hHeld
      go_wp2_with (first | (refine wpList_load_mid rfl 57 (.tmp 7) rfl _ 0 rfl _ _ (row_load hF.2.1.1) Tryz.underlying57 rfl (info57 (p := ⟨p, anyP (pfam p)⟩) ⟨Hp.out, hq.out⟩) ?_) | (go_at_call 60; refine hchk.mono ?_; clear hchk; rintro e w6 ⟨rfl, bel6⟩; have hG := hF.go bel6) | (refine wpList_load_mid rfl 57 (.tmp 7) rfl _ 0 rfl _ _ (row_load hG.2.1.1) Tryz.underlying57 rfl (info57 (p := ⟨p, anyP (pfam p)⟩) ⟨Hp.out, hq.out⟩) ?_) | (refine wpList_store_row rfl 57 (.tmp 2) (.tmp 60) rfl w.heap.size _ rfl rfl 57 _ hG.2.1.2.2.1 (info57 (p := ⟨p, anyP (pfam p)⟩) ⟨Hp.out, hq.out⟩) ((pp_size zeroPr_fit).trans (pp_size (p := ⟨p, anyP (pfam p)⟩) ⟨Hp.out, hq.out⟩).symm) (pp_one ⟨p, anyP (pfam p)⟩) ?_))
      refine bodyPost_ret (v := .tuple #[vPP ⟨p, anyP (pfam p)⟩, .int .i64 0]) ?_ rfl ⟨rfl, below_row hG.1 (Nat.le_refl _) _⟩
      exact results_cell_tmp rfl _ _ rfl (BoxPP.run (p := ⟨p, anyP (pfam p)⟩) (setRow_heap _ _ _ _ _ _ hG.2.1.2.2.1) ⟨Hp.out, hq.out⟩).2.2 rfl
  · obtain ⟨hZ, nZ, lZ⟩ := hHeld.alloc' (g := w3.heap.size + 1) (oPP zeroPr) (World.size_alloc _ _)
    go_simp
    refine hK.out _ _ ?_ (fun hHeld => ?_)
    · exact hHeld.go ((Below.refl _ _).alloc (Nat.le_refl _) _)
    clear hK K
    (try simp only [Act.put, List.setIfInBounds_toArray, List.set_cons_zero, List.set_cons_succ])
    refine wpAnyH_ready (rs := [2]) (by kernel_rfl) (by simp) ?_
    refine AllReadyH.cons (o := { dst := (some 34), op := (Op.call { callee := (Callee.value (Operand.func 54)), args := #[(Operand.tmp 33)], argTypes := #[55] }), type := 3, pos := "addr.go:281", after := #[{ on := 1, ground := Ground.data }], guard := none }) rfl (fun K hK => ?_) AllReadyH.nil
    go_simp
    refine (pfam_any Hp.out).mono ?_
    rintro e wA ⟨rfl, bel⟩
    replace hZ := hZ.go bel
    refine hK.out _ _ ?_ (fun hHeld => ?_)
    · exact hHeld.go bel
    clear hK K
    (try simp only [Act.put, List.setIfInBounds_toArray, List.set_cons_zero, List.set_cons_succ])
    refine wpAnyH_ready (rs := [3]) (by kernel_rfl) (by simp) ?_
    refine AllReadyH.cons (o := { dst := (some 35), op := (Op.call { callee := (Callee.value (Operand.func 55)), args := #[(Operand.tmp 34)], argTypes := #[3] }), type := 55, pos := "addr.go:281", after := #[{ on := 2, ground := Ground.data }, { on := 2, ground := Ground.chain }], guard := none }) rfl (fun K hK => ?_) AllReadyH.nil
    go_simp
    refine (any_any (pfam p)).mono ?_
    rintro e wB ⟨rfl, bel⟩
    replace hZ := hZ.go bel
    refine hK.out _ _ ?_ (fun hHeld => ?_)
    · exact hHeld.go bel
    clear hK K
    (try simp only [Act.put, List.setIfInBounds_toArray, List.set_cons_zero, List.set_cons_succ])
    refine wpAnyH_take (i := 4) (oi := { dst := (some 36), op := (Op.build 57 #[(0, (Operand.tmp 32)), (1, (Operand.tmp 35))]), type := 57, pos := "addr.go:281", after := #[{ on := 0, ground := Ground.data }, { on := 3, ground := Ground.data }], guard := none }) (v := .agg (pCs p.a p.n ++ pCs (anyP (pfam p)).a (anyP (pfam p)).n).toArray) rfl (by kernel_rfl) (by kernel_rfl) (by kernel_rfl) (fun _ _ _ h => h) (Or.inl ⟨by rfl, fun W hW => ?_⟩) (by assumption) ?_
    · exact exec_build2 (x := .tmp 32) (y := .tmp 35) rfl rfl rfl (built57 Hp.out.1 hq.out.1)
    (try simp only [Act.put, List.setIfInBounds_toArray, List.set_cons_zero, List.set_cons_succ])
    refine wpAnyH_ready (rs := [6]) (by kernel_rfl) (by simp) ?_
    refine AllReadyH.cons (o := { dst := none, op := (Op.store 57 (Operand.tmp 7) (Operand.tmp 36)), type := 0, pos := "addr.go:281", after := #[{ on := 5, ground := Ground.data }, { on := 4, ground := Ground.data }, { on := 3, ground := Ground.chain }, { on := 0, ground := Ground.phase }, { on := 1, ground := Ground.phase }, { on := 2, ground := Ground.phase }, { on := 3, ground := Ground.phase }, { on := 4, ground := Ground.phase }, { on := 5, ground := Ground.phase }], guard := none }) rfl (fun K hK => ?_) AllReadyH.nil
    have hF := hZ.set1 (pCs p.a p.n ++ pCs (anyP (pfam p)).a (anyP (pfam p)).n).toArray lZ nZ
    refine wanted_go (by rfl) ?_
    refine wp_store_row 57 (.tmp 7) (.tmp 36) rfl _ _ rfl rfl 57 _ hZ.2.1.1 (info57 (p := ⟨p, anyP (pfam p)⟩) ⟨Hp.out, hq.out⟩) ((pp_size zeroPr_fit).trans (pp_size (p := ⟨p, anyP (pfam p)⟩) ⟨Hp.out, hq.out⟩).symm) (pp_one ⟨p, anyP (pfam p)⟩) ?_
    refine hK.out _ _ ?_ (fun hHeld => ?_)
    · exact ⟨hF.1, hF.2.1.2, hF.2.2⟩
    clear hK K
    (try simp only [Act.put, List.setIfInBounds_toArray, List.set_cons_zero, List.set_cons_succ])
    refine wpAnyH_done (by kernel_rfl) ?_ _
    clear hHeld
    go_wp2_with (first | (refine wpList_load_mid rfl 57 (.tmp 7) rfl _ 0 rfl _ _ (row_load hF.2.1.1) Tryz.underlying57 rfl (info57 (p := ⟨p, anyP (pfam p)⟩) ⟨Hp.out, hq.out⟩) ?_) | (go_at_call 60; refine hchk.mono ?_; clear hchk; rintro e w6 ⟨rfl, bel6⟩; have hG := hF.go bel6) | (refine wpList_load_mid rfl 57 (.tmp 7) rfl _ 0 rfl _ _ (row_load hG.2.1.1) Tryz.underlying57 rfl (info57 (p := ⟨p, anyP (pfam p)⟩) ⟨Hp.out, hq.out⟩) ?_) | (refine wpList_store_row rfl 57 (.tmp 2) (.tmp 60) rfl w.heap.size _ rfl rfl 57 _ hG.2.1.2.2.1 (info57 (p := ⟨p, anyP (pfam p)⟩) ⟨Hp.out, hq.out⟩) ((pp_size zeroPr_fit).trans (pp_size (p := ⟨p, anyP (pfam p)⟩) ⟨Hp.out, hq.out⟩).symm) (pp_one ⟨p, anyP (pfam p)⟩) ?_))
    refine bodyPost_ret (v := .tuple #[vPP ⟨p, anyP (pfam p)⟩, .int .i64 0]) ?_ rfl ⟨rfl, below_row hG.1 (Nat.le_refl _) _⟩
    exact results_cell_tmp rfl _ _ rfl (BoxPP.run (p := ⟨p, anyP (pfam p)⟩) (setRow_heap _ _ _ _ _ _ hG.2.1.2.2.1) ⟨Hp.out, hq.out⟩).2.2 rfl
end Go.Proofs.YtnljjlaececnkaaGreatDoor
