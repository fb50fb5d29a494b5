/-
  What a card's listed variables give the walks; the opening of arguments that are addresses, prefixes, pairs. No condition.
-/
import Derived.Test.YtnljjlaececnkaaGreatDoorRows
import Derived.Test.YtnljjlaececnkaaGreatDoorH
import Derived.Test.YtnljjlaececnkaaGreatDoorF
import Derived.Test.YtnljjlaececnkaaGreatDoorZ
import Derived.Lib.LaidTab
import Derived.Stop.LaidErr
import Derived.Shelf.Vars
import Derived.MakeChecks
namespace Go.Proofs.YtnljjlaececnkaaGreatDoor
open Go.ChangeShapes Go.WideShapes Go.ChangeAt Go.RowKit
set_option linter.unusedVariables false
set_option linter.unusedSimpArgs false
theorem star_err : "*" ++ "errors.errorString" = "*errors.errorString" := by decide
theorem row354 (u : TypeId) (h : Tryz.prog.typeName? 3 u = some "*errors.errorString") : u = 354 :=
  typeName_ptr_named (nm := "errors.errorString") (by rw [star_err]; kernel_rfl) (by kernel_rfl) (by decide) u (by rw [star_err]; exact h)
theorem c356 : Tryz.prog.cellsOf 356 = 1 := by kernel_rfl
theorem c9' : Tryz.prog.cellsOf 9 = 1 := by kernel_rfl
theorem c5' : Tryz.prog.cellsOf 5 = 1 := by kernel_rfl
def bruijn : List Int := [0, 1, 56, 2, 57, 49, 28, 3, 61, 58, 42, 50, 38, 29, 17, 4, 62, 47, 59, 36, 45, 43, 51, 22, 53, 39, 33, 30, 24, 18, 12, 5, 63, 55, 48, 27, 60, 41, 37, 16, 46, 35, 44, 21, 52, 32, 23, 11, 54, 26, 40, 15, 34, 20, 31, 10, 25, 14, 19, 9, 13, 8, 7, 6]
theorem tab_below {P : Program} {w w' : World} {name : String} {k : IntKind} {zs : List Int} (h : Lib.TabIs P w name k zs) (hb : Below w.heap.size w w') : Lib.TabIs P w' name k zs := by
  unfold Lib.TabIs World.var? at *
  cases hg : P.globalNamed name with
  | none => simp [hg] at h
  | some g =>
    simp only [hg, Option.bind_some] at h ⊢
    have hlt : g < w.heap.size := by
      rcases Nat.lt_or_ge g w.heap.size with h' | h'
      · exact h'
      · simp [Array.getElem?_eq_none h'] at h
    rw [hb.block g hlt]; exact h
theorem EnvC.below {W W' : World} (h : EnvC W) (hb : Below W.heap.size W W') : EnvC W' := by
  have hc : ∀ {b o : Nat} {v : Value}, W.cell? ⟨b, o, none⟩ = some v → W'.cell? ⟨b, o, none⟩ = some v := fun {b o v} hv => by
    rw [hb.cell (p := ⟨b, o, none⟩) (World.block_lt_of_cell? W _ hv)]; exact hv
  obtain ⟨⟨m, h1⟩, ⟨e1, h2, i2⟩, ⟨e2, h3, i3⟩, h4, h5⟩ := h
  exact ⟨⟨m, hc h1⟩, ⟨e1, hc h2, i2⟩, ⟨e2, hc h3, i3⟩, tab_below h4 hb, hc h5⟩
theorem EnvC.env {W : World} (h : EnvC W) : Env W := fun W' hb => h.below hb
theorem envc_of {W : World} (hsh : W.ShapedOpen Tryz.prog) (hL : laidMetH Tryz.prog Rows.addrTreeRow.laid W) : EnvC W := by
  rw [MakeChecks.laidMetH_plain _ _ _ (by kernel_rfl)] at hL
  obtain ⟨m, hm⟩ := cell_of_shapedOpen_int (g := 0) (zero := #[.int .i64 0]) (t := 3) hsh (of_decide_eq_true (by kernel_rfl)) (by kernel_rfl) rfl (by kernel_rfl) (by kernel_rfl) Tryz.underlying3
  have h1 := hL.tail
  have h2 := h1.tail
  have h4 := h2.tail.tail
  have h5 := h4.tail
  have t64 : Lib.TabIs Tryz.prog W "math/bits.deBruijn64tab" .u8 bruijn := Lib.tabIs_of_head (g := 7) (t := 382) (e := 5) (n := 64) (by kernel_rfl) (by kernel_rfl) Tryz.underlying382 Tryz.underlying5 c5' (by kernel_rfl) h1
  have tp : Lib.TabIs Tryz.prog W "internal/strconv.uint64pow10" .u64 Lib.pow10Tab := Lib.tabIs_of_head (g := 3) (t := 324) (e := 161) (n := 20) (by kernel_rfl) (by kernel_rfl) Tryz.underlying324 Tryz.underlying161 (by kernel_rfl) (by kernel_rfl) h2
  obtain ⟨a1, s1, v1, -, -, -⟩ := laid_sentinel h4 (g := 2) (ti := 158) (by kernel_rfl) (by kernel_rfl) Tryz.underlying158 row354 Tryz.underlying354 Tryz.underlying356 rfl rfl Tryz.underlying9 c356 c9'
  obtain ⟨a2, s2, v2, -, -, -⟩ := laid_sentinel h5 (g := 1) (ti := 158) (by kernel_rfl) (by kernel_rfl) Tryz.underlying158 row354 Tryz.underlying354 Tryz.underlying356 rfl rfl Tryz.underlying9 c356 c9'
  have c1 := World.var?_cell (show Tryz.prog.globalNamed "strconv.ErrRange" = some 2 by kernel_rfl) v1 0
  have c2 := World.var?_cell (show Tryz.prog.globalNamed "strconv.ErrSyntax" = some 1 by kernel_rfl) v2 0
  exact ⟨⟨m, hm⟩, ⟨_, by simpa using c2, .inr ⟨_, _, rfl⟩⟩, ⟨_, by simpa using c1, .inr ⟨_, _, rfl⟩⟩, tp, by have := t64.cell (show Tryz.prog.globalNamed "math/bits.deBruijn64tab" = some 7 by kernel_rfl) 15 (by decide); simpa [bruijn] using this⟩
theorem env_of {W : World} (hsh : W.ShapedOpen Tryz.prog) (hL : laidMetH Tryz.prog Rows.addrTreeRow.laid W) : Env W := (envc_of hsh hL).env
/-! ### arguments -/
theorem cell_int {P : Program} {w : World} {r : Reach} {base : Nat} {t : TypeId} {v : Value} {k : IntKind} (ht : P.underlying t = some (.int k)) (h : Cell.okWide P w r base t v) : ∃ n, v = .int k n ∧ k.has n := by
  unfold Cell.okWide at h
  rw [ht] at h
  cases v <;> simp_all [Cell.ok]
/-- A row of cells, each a whole number of its kind. -/
theorem open_cells {P : Program} {w : World} {r : Reach} {base : Nat} {t : TypeId} {cs : Array Value} {ts : List TypeId} {ks : List IntKind} (hts : P.cellTypes P.depth t = some ts) (hk : ts.map P.underlying = ks.map fun k => some (.int k)) (hsz : cs.size = ts.length) (h : Row.okWide P w r base t cs) :
    ∃ xs : List Int, xs.length = ts.length ∧ ∀ (i : Nat) (k : IntKind), ks[i]? = some k → ∃ x, xs[i]? = some x ∧ cs[i]? = some (.int k x) ∧ k.has x := by
  obtain ⟨ts', h1, -, h3⟩ := h
  rw [hts] at h1; cases h1
  have key : ∀ i, i < ts.length → ∃ k x, ks[i]? = some k ∧ cs[i]? = some (.int k x) ∧ k.has x := by
    intro i hi
    obtain ⟨v, hv⟩ : ∃ v, cs[i]? = some v := ⟨_, Array.getElem?_eq_getElem (by omega)⟩
    obtain ⟨u, hu, ho⟩ := h3 i v hv
    rw [Nat.mod_eq_of_lt hi] at hu
    have e := congrArg (fun l => l[i]?) hk
    simp only [List.getElem?_map, hu, Option.map_some] at e
    cases hki : ks[i]? with
    | none => rw [hki] at e; cases e
    | some k =>
      rw [hki] at e
      obtain ⟨x, rfl, hx⟩ := cell_int (Option.some.inj e) ho
      exact ⟨k, x, rfl, hv, hx⟩
  have hl : ks.length = ts.length := by have := congrArg List.length hk; simpa using this.symm
  refine ⟨(List.range ts.length).map fun i => (match cs[i]? with | some (Value.int _ x) => x | _ => (0 : Int)), by simp, fun i k hki => ?_⟩
  have hi : i < ts.length := by have := (List.getElem?_eq_some_iff.1 hki).1; omega
  obtain ⟨k', x, h1, h2, h4⟩ := key i hi
  rw [hki] at h1; cases h1
  exact ⟨x, by simp [hi, h2], h2, h4⟩
theorem has_u8 {x : Int} (h : IntKind.u8.has x) : 0 ≤ x ∧ x < 256 := by
  have e1 : IntKind.u8.min = 0 := rfl
  have e2 : IntKind.u8.max = 255 := rfl
  simp [IntKind.has, e1, e2] at h; omega
theorem rep_get {α : Type} {n i : Nat} (k : α) (h : i < n) : (List.replicate n k)[i]? = some k := by rw [List.getElem?_replicate, if_pos h]
theorem ct42 : Tryz.prog.cellTypes Tryz.prog.depth 42 = some (List.replicate 16 5) := by kernel_rfl
theorem ct55 : Tryz.prog.cellTypes Tryz.prog.depth 55 = some (List.replicate 16 5 ++ [3]) := by kernel_rfl
theorem ct57 : Tryz.prog.cellTypes Tryz.prog.depth 57 = some (List.replicate 16 5 ++ [3] ++ (List.replicate 16 5 ++ [3])) := by kernel_rfl
theorem size42' : Tryz.prog.cellsOf 42 = 16 := by kernel_rfl
theorem arr_eq {cs : Array Value} {l : List Value} (hl : cs.size = l.length) (h : ∀ i, i < l.length → cs[i]? = l[i]?) : cs = l.toArray := by
  apply Array.ext_getElem?
  intro i
  by_cases hi : i < l.length
  · rw [h i hi, List.getElem?_toArray]
  · rw [Array.getElem?_eq_none (by omega), List.getElem?_toArray, List.getElem?_eq_none (by omega)]
section
variable {w : World} {r : Reach} {base : Nat} {v : Value}
set_option maxRecDepth 100000 in
/-- An address that came in. -/
theorem open_A (h : Value.okWide Tryz.prog w r base 42 v) : ∃ a, v = vA a ∧ isA a := by
  unfold Value.okWide at h
  rw [Tryz.underlying42] at h
  obtain ⟨cs, rfl, hsz, hr⟩ := h
  rw [size42'] at hsz
  obtain ⟨xs, hl, hx⟩ := open_cells (ks := List.replicate 16 .u8) ct42 (by simp [Tryz.underlying5]) (by simp [hsz]) hr
  have hg : ∀ i, i < 16 → ∃ x, xs[i]? = some x ∧ cs[i]? = some (.int .u8 x) ∧ IntKind.u8.has x := fun i hi => hx i .u8 (rep_get _ hi)
  have hl' : xs.length = 16 := by simpa using hl
  refine ⟨xs, ?_, hl', fun x hm => ?_⟩
  · unfold vA
    congr 1
    refine arr_eq (by rw [nums_length]; omega) fun i hi => ?_
    rw [nums_length] at hi
    obtain ⟨x, h1, h2, -⟩ := hg i (by omega)
    rw [h2, nums_get h1]
  · obtain ⟨i, hi, rfl⟩ := List.mem_iff_getElem.1 hm
    obtain ⟨x, h1, -, h3⟩ := hg i (by omega)
    rw [List.getElem?_eq_getElem hi] at h1
    rw [Option.some.inj h1]; exact has_u8 h3
theorem has_i64 {x : Int} (h : IntKind.i64.has x) : (Lit.int .i64 x).wf = true := by
  simp [IntKind.has] at h
  simp [Lit.wf]; omega
set_option maxRecDepth 100000 in
/-- The part of a row that is a prefix. -/
theorem open_pf {cs : Array Value} {off : Nat} (h8 : ∀ i, i < 16 → ∃ x, cs[off + i]? = some (.int .u8 x) ∧ IntKind.u8.has x) (hn : ∃ x, cs[off + 16]? = some (.int .i64 x) ∧ IntKind.i64.has x) :
    ∃ p : Pf, p.ok ∧ ∀ j, j < 17 → cs[off + j]? = (pCs p.a p.n)[j]? := by
  obtain ⟨n, hn, hn2⟩ := hn
  have hg : ∀ i, i < 16 → ((List.range 16).map fun i => (match cs[off + i]? with | some (Value.int _ x) => x | _ => (0 : Int)))[i]? = some (match cs[off + i]? with | some (Value.int _ x) => x | _ => (0 : Int)) := fun i hi => by simp [hi]
  refine ⟨⟨(List.range 16).map fun i => (match cs[off + i]? with | some (Value.int _ x) => x | _ => (0 : Int)), n⟩, ⟨⟨by simp, fun x hx => ?_⟩, has_i64 hn2⟩, fun j hj => ?_⟩
  · obtain ⟨i, hi, rfl⟩ := List.mem_map.1 hx
    obtain ⟨y, h1, h2⟩ := h8 i (by simpa using hi)
    rw [h1]; exact has_u8 h2
  · by_cases h16 : j < 16
    · obtain ⟨y, h1, h2⟩ := h8 j h16
      have := hg j h16
      rw [h1] at this ⊢
      exact (pCs_at (p := ⟨_, n⟩) (nums_get (k := .u8) this)).symm
    · obtain rfl : j = 16 := by omega
      rw [hn]
      exact (pCs_get (p := ⟨_, n⟩) ⟨by simp, fun x hx => by
        obtain ⟨i, hi, rfl⟩ := List.mem_map.1 hx
        obtain ⟨y, h1, h2⟩ := h8 i (by simpa using hi)
        rw [h1]; exact has_u8 h2⟩).symm
set_option maxRecDepth 100000 in
/-- A prefix that came in. -/
theorem open_P (h : Value.okWide Tryz.prog w r base 55 v) : ∃ p, v = vPf p ∧ p.ok := by
  unfold Value.okWide at h
  rw [Tryz.underlying55] at h
  obtain ⟨cs, rfl, hsz, hr⟩ := h
  rw [c55] at hsz
  obtain ⟨xs, hl, hx⟩ := open_cells (ks := List.replicate 16 .u8 ++ [.i64]) ct55 (by simp [Tryz.underlying5, Tryz.underlying3]) (by simp [hsz]) hr
  obtain ⟨p, hp, he⟩ := open_pf (cs := cs) (off := 0) (fun i hi => by
      obtain ⟨x, -, h2, h3⟩ := hx i .u8 (by rw [List.getElem?_append_left (by rw [List.length_replicate]; exact hi)]; exact rep_get _ hi)
      exact ⟨x, by simpa using h2, h3⟩) (by
      obtain ⟨x, -, h2, h3⟩ := hx 16 .i64 (by simp)
      exact ⟨x, by simpa using h2, h3⟩)
  refine ⟨p, ?_, hp⟩
  unfold vPf
  congr 1
  refine arr_eq (by rw [pCs_len hp.1]; exact hsz) fun j hj => ?_
  rw [pCs_len hp.1] at hj
  simpa using he j hj
set_option maxRecDepth 100000 in
/-- A pair that came in. -/
theorem open_PP (h : Value.okWide Tryz.prog w r base 57 v) : ∃ p, v = vPP p ∧ p.fit := by
  unfold Value.okWide at h
  rw [Tryz.underlying57] at h
  obtain ⟨cs, rfl, hsz, hr⟩ := h
  rw [c57] at hsz
  obtain ⟨xs, hl, hx⟩ := open_cells (ks := List.replicate 16 .u8 ++ [.i64] ++ (List.replicate 16 .u8 ++ [.i64])) ct57 (by simp [Tryz.underlying5, Tryz.underlying3]) (by simp [hsz]) hr
  obtain ⟨p, hp, he⟩ := open_pf (cs := cs) (off := 0) (fun i hi => by
      obtain ⟨x, -, h2, h3⟩ := hx i .u8 (by rw [List.append_assoc, List.getElem?_append_left (by rw [List.length_replicate]; exact hi)]; exact rep_get _ hi)
      exact ⟨x, by simpa using h2, h3⟩) (by
      obtain ⟨x, -, h2, h3⟩ := hx 16 .i64 (by simp)
      exact ⟨x, by simpa using h2, h3⟩)
  obtain ⟨q, hq, hf⟩ := open_pf (cs := cs) (off := 17) (fun i hi => by
      obtain ⟨x, -, h2, h3⟩ := hx (17 + i) .u8 (by
        have e : (List.replicate 16 IntKind.u8 ++ [IntKind.i64]).length = 17 := rfl
        rw [List.getElem?_append_right (by omega), e, Nat.add_sub_cancel_left, List.getElem?_append_left (by rw [List.length_replicate]; exact hi)]; exact rep_get _ hi)
      exact ⟨x, h2, h3⟩) (by
      obtain ⟨x, -, h2, h3⟩ := hx 33 .i64 (by simp)
      exact ⟨x, by simpa using h2, h3⟩)
  refine ⟨⟨p, q⟩, ?_, hp, hq⟩
  unfold vPP
  congr 1
  refine arr_eq (by rw [List.length_append, pCs_len hp.1, pCs_len hq.1]; exact hsz) fun j hj => ?_
  rw [List.length_append, pCs_len hp.1, pCs_len hq.1] at hj
  by_cases hj17 : j < 17
  · rw [List.getElem?_append_left (by rw [pCs_len hp.1]; exact hj17)]
    simpa using he j hj17
  · rw [List.getElem?_append_right (by rw [pCs_len hp.1]; omega), pCs_len hp.1, ← hf (j - 17) (by omega), show 17 + (j - 17) = j by omega]
end
end Go.Proofs.YtnljjlaececnkaaGreatDoor
