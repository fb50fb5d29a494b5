/-
  Slices of structs and of slices that came in, opened. No condition.
-/
import Derived.Test.YtgfhhnmhpncnlaaO
namespace Go.Proofs.Ytgfhhnmhpncnlaa
open Go.ChangeShapes Go.WideShapes Go.ChangeAt Go.RowKit
set_option linter.unusedVariables false
set_option linter.unusedSimpArgs false
section
variable {H : Type} {enc : TypeId × Value → H} {P : Program} {W : World}

/-- These cells read as data of this type, whose weights are small. -/
def Reads (enc : TypeId × Value → H) (P : Program) (W : World) (t : TypeId) (cs : List Value) : Prop :=
  ∃ fuel d ps, DataW.trod enc P W 0 (fun _ => true) true fuel t cs = some (d, ps) ∧ ∀ m ∈ d.weights P t, m ≤ reachBytes

theorem mapM_cells {w : World} {a : Addr} {n : Nat} {l : List Value} (h : w.cells? 0 a n = some l) : l.length = n ∧ ∀ i u, l[i]? = some u → w.cell? (a.add i) = some u := by
  unfold World.cells? at h
  rw [if_pos (Nat.zero_le _)] at h
  have hl : l.length = n := by simpa using mapM_some_length h
  refine ⟨hl, fun i u hi => ?_⟩
  have hin : i < n := by have := (List.getElem?_eq_some_iff.1 hi).1; omega
  have := mapM_some_get h i i (by simp [hin])
  rw [this]; exact hi

theorem flat_at {els : List (List Value)} {sz : Nat} (h : ∀ c ∈ els, c.length = sz) (hz : 0 < sz) (j : Nat) (u : Value) : els.flatten[j]? = some u → ∃ c, els[j / sz]? = some c ∧ c[j % sz]? = some u := by
  induction els generalizing j with
  | nil => intro hj; simp at hj
  | cons c els ih =>
    intro hj
    have hc := h c (by simp)
    rw [List.flatten_cons] at hj
    by_cases hlt : j < c.length
    · rw [List.getElem?_append_left hlt] at hj
      refine ⟨c, by rw [Nat.div_eq_of_lt (by omega)]; rfl, by rw [Nat.mod_eq_of_lt (by omega)]; exact hj⟩
    · rw [List.getElem?_append_right (by omega)] at hj
      obtain ⟨c', h1, h2⟩ := ih (fun c hc => h c (by simp [hc])) _ hj
      have hj2 : j = (j - c.length) + sz := by omega
      refine ⟨c', ?_, ?_⟩
      · rw [hj2, Nat.add_div_right _ hz, List.getElem?_cons_succ]; exact h1
      · rw [hj2, Nat.add_mod_right]; exact h2

theorem weightsAll_mem {e : TypeId} {ds : List (DataW H)} {d : DataW H} (h : d ∈ ds) {m : Nat} (hm : m ∈ d.weights P e) : m ∈ DataW.weightsAll P e ds := by
  induction ds with
  | nil => cases h
  | cons x ds ih =>
    simp only [DataW.weightsAll, List.mem_append]
    rcases List.mem_cons.1 h with rfl | h
    · exact .inl hm
    · exact .inr (ih h)

/-- A slice. -/
theorem Reads.slice {t e : TypeId} {sz B : Nat} {cs : List Value} (h : Reads enc P W t cs) (hu : P.underlying t = some (.slice e)) (hc : P.cellsOf e = sz) (hz : 0 < sz) (hB : P.bytesOf e = B) :
    ∃ (v : Value) (els : List (List Value)), cs = [v] ∧ (∀ c ∈ els, c.length = sz) ∧ Row W (fun _ => False) sz v els.length els.flatten ∧ els.length * B ≤ 140737488351232 ∧ ∀ c ∈ els, Reads enc P W e c := by
  subst hc hB
  obtain ⟨fuel, d, ps, h, hw⟩ := h
  rcases DataW.trod_slice hu h with ⟨rfl, hx⟩ | ⟨a, len, cap, elems, rest, n, rfl, rfl, hx, hb, hl, hm, hlen, hel, hsp, hns⟩
  · exact ⟨_, [], rfl, (fun c h => by cases h), ⟨by simp, none, 0, rfl, Nat.le_refl _, by decide, fun _ => rfl, fun a h => by cases h⟩, by simp, fun c h => by cases h⟩
  · obtain ⟨rfl, rfl⟩ := Prod.mk.inj hx
    have hget : ∀ i, i < len → ∃ c d' ps', W.cells? 0 (a.add (i * P.cellsOf e)) (P.cellsOf e) = some c ∧ elems[i]? = some (d', ps') ∧ DataW.trod enc P W 0 (fun _ => true) true n e c = some (d', ps') := by
      intro i hi
      have h1 := hel i hi
      have hie : i < elems.length := by omega
      rw [List.getElem?_eq_getElem hie] at h1
      obtain ⟨c, h2, h3⟩ := Option.bind_eq_some_iff.1 h1
      exact ⟨c, elems[i].1, elems[i].2, h2, by rw [List.getElem?_eq_getElem hie], h3⟩
    let els : List (List Value) := (List.range len).map fun i => ((W.cells? 0 (a.add (i * P.cellsOf e)) (P.cellsOf e)).getD [])
    have hels : ∀ i, i < len → ∃ c, els[i]? = some c ∧ W.cells? 0 (a.add (i * P.cellsOf e)) (P.cellsOf e) = some c := by
      intro i hi
      obtain ⟨c, _, _, h1, _, _⟩ := hget i hi
      exact ⟨c, by simp [els, hi, h1], h1⟩
    have hlen2 : els.length = len := by simp [els]
    have hall : ∀ c ∈ els, ∃ i, i < len ∧ W.cells? 0 (a.add (i * P.cellsOf e)) (P.cellsOf e) = some c := by
      intro c hc
      obtain ⟨i, hi, hic⟩ := List.mem_iff_getElem.1 hc
      obtain ⟨c', h1, h2⟩ := hels i (by omega)
      rw [List.getElem?_eq_getElem hi, hic] at h1
      cases h1
      exact ⟨i, by omega, h2⟩
    have hcl : ∀ c ∈ els, c.length = P.cellsOf e := fun c hc => by obtain ⟨i, _, h⟩ := hall c hc; exact (mapM_cells h).1
    have hflat : els.flatten.length = len * P.cellsOf e := by
      have : ∀ (l : List (List Value)), (∀ c ∈ l, c.length = P.cellsOf e) → l.flatten.length = l.length * P.cellsOf e := by
        intro l; induction l with
        | nil => simp
        | cons c l ih => intro h; rw [List.flatten_cons, List.length_append, ih (fun c hc => h c (by simp [hc])), h c (by simp), List.length_cons, Nat.add_mul]; omega
      rw [this els hcl, hlen2]
    refine ⟨.slice (some a) len cap, els, rfl, hcl, ⟨by rw [hflat, hlen2], some a, cap, by rw [hlen2], by omega, hm, (fun h => by cases h), fun a' ha hn => ?_⟩, ?_, fun c hc => ?_⟩
    · obtain rfl : a = a' := by injection ha
      obtain ⟨c0, h1, h2⟩ := hels 0 (by omega)
      obtain ⟨hc0, hcell⟩ := mapM_cells h2
      have h00 : 0 < c0.length := by rw [hc0]; exact hz
      have hcc := hcell 0 _ (List.getElem?_eq_getElem h00)
      have e0 : (a.add (0 * P.cellsOf e)).add 0 = a := by simp [Addr.add]
      rw [e0] at hcc
      have hsp2 := World.cell?_spot hcc
      obtain ⟨b, o, s⟩ := a
      simp only at hsp2
      subst hsp2
      refine ⟨b, o, rfl, fun h => h, World.block_lt_of_cell? W _ hcc, fun j u hj => ?_⟩
      obtain ⟨c, h3, h4⟩ := flat_at hcl hz j u hj
      have hjl : j / P.cellsOf e < len := by have := (List.getElem?_eq_some_iff.1 h3).1; omega
      obtain ⟨c', h5, h6⟩ := hels _ hjl
      rw [h3] at h5; cases h5
      have := (mapM_cells h6).2 _ _ h4
      rw [Addr.add_lit, Addr.add_lit] at this
      rwa [Nat.add_assoc, Nat.div_add_mod' j (P.cellsOf e)] at this
    · have h1 := hw ((elems.map (·.1)).length + (rest.map (·.1)).length |> (· * P.bytesOf e)) (by simp [DataW.weights, hu])
      rw [hlen2]
      refine Nat.le_trans (Nat.mul_le_mul_right _ ?_) h1
      simp; omega
    · obtain ⟨i, hi, h1⟩ := hall c hc
      obtain ⟨c', d', ps', h2, h3, h4⟩ := hget i hi
      rw [h1] at h2; cases h2
      refine ⟨n, d', ps', h4, fun m hm => hw m ?_⟩
      simp only [DataW.weights, hu, List.mem_cons, List.mem_append]
      exact .inr (.inl (weightsAll_mem (List.mem_map.2 ⟨(d', ps'), List.mem_of_getElem? h3, rfl⟩) hm))

/-- A struct's field. -/
theorem Reads.field {t : TypeId} {fs : Array Field} {cs : List Value} (h : Reads enc P W t cs) (hu : P.underlying t = some (.struct fs)) :
    cs.length = P.cellsOf t ∧ ∀ (i : Nat) (f : Field), fs[i]? = some f → Reads enc P W f.type ((cs.drop f.offset).take (P.cellsOf f.type)) := by
  obtain ⟨fuel, d, ps, h, hw⟩ := h
  obtain ⟨xs, n, rfl, hx, hl, hxl, hf⟩ := DataW.trod_struct hu h
  obtain ⟨rfl, rfl⟩ := Prod.mk.inj hx
  refine ⟨hl, fun i f hi => ?_⟩
  have h1 := hf i f hi
  have hix : i < xs.length := by have := (Array.getElem?_eq_some_iff.1 hi).1; omega
  rw [List.getElem?_eq_getElem hix] at h1
  refine ⟨n, xs[i].1, xs[i].2, h1, fun m hm => hw m ?_⟩
  simp only [DataW.weights, hu]
  exact DataW.weights_mem_each (j := i) (by simp [hi]) (by simp [List.getElem?_eq_getElem hix]) m hm
/-- A whole number. -/
theorem Reads.int {t : TypeId} {k : IntKind} {cs : List Value} (h : Reads enc P W t cs) (hu : P.underlying t = some (.int k)) : ∃ n, cs = [.int k n] ∧ (Lit.int k n).wf = true := by
  obtain ⟨fuel, d, ps, h, hw⟩ := h
  obtain ⟨n, rfl, -, hn⟩ := DataW.trod_int hu h
  exact ⟨n, rfl, hn⟩
/-- An argument. -/
theorem Reads.of_arg {t : TypeId} {v : Value} {d : DataW H} {ps : List MemPlace} (h : DataW.Trod enc P W 0 (fun _ => true) true t v d ps) (hv : v.cells.toList = [v]) {ts : List TypeId} {ds : List (DataW H)} (hsz : (DataW.weightsEach P ts ds).all (· ≤ reachBytes) = true) {j : Nat} (ht : ts[j]? = some t) (hd : ds[j]? = some d) : Reads enc P W t [v] := by
  obtain ⟨fuel, hf⟩ := h
  rw [hv] at hf
  exact ⟨fuel, d, ps, hf, fun m hm => by have := List.all_eq_true.1 hsz m (DataW.weights_mem_each ht hd m hm); simpa using this⟩
end
theorem flat_get {els : List (List Value)} {sz : Nat} (h : ∀ c ∈ els, c.length = sz) {j i : Nat} (hj : j < els.length) (hi : i < sz) : els.flatten[j * sz + i]? = (els[j])[i]? := by
  induction els generalizing j with
  | nil => simp at hj
  | cons c els ih =>
    have hc := h c (by simp)
    rw [List.flatten_cons]
    cases j with
    | zero => rw [List.getElem?_append_left (by omega)]; simp
    | succ j =>
      rw [List.getElem?_append_right (by rw [hc, Nat.add_mul]; omega), show (j + 1) * sz + i - c.length = j * sz + i from by rw [hc, Nat.add_mul]; omega]
      exact ih (fun c hc => h c (by simp [hc])) (by simpa using hj)
theorem exists_map {α β : Type} (f : β → α) : ∀ (l : List α), (∀ c ∈ l, ∃ x, c = f x) → ∃ m : List β, l = m.map f
  | [], _ => ⟨[], rfl⟩
  | c :: l, h => by
    obtain ⟨x, rfl⟩ := h c (by simp)
    obtain ⟨m, rfl⟩ := exists_map f l (fun c hc => h c (by simp [hc]))
    exact ⟨x :: m, rfl⟩
def stepC (x : Int × Int) : List Value := [.int .i64 x.1, .int .i64 x.2]
theorem open_T23 {H : Type} {enc : TypeId × Value → H} {W : World} {v : Value} (h : Reads enc Try.prog W 23 [v]) : ∃ l : List (Int × Int), Row W (fun _ => False) 2 v l.length (l.map stepC).flatten := by
  obtain ⟨v', els, hv, hl, hr, -, he⟩ := h.slice Try.underlying23 (sz := 2) (B := 16) (by kernel_rfl) (by decide) (by kernel_rfl)
  obtain rfl : v' = v := by injection hv with h _; exact h.symm
  obtain ⟨l, rfl⟩ := exists_map stepC els (fun c hc => by
    obtain ⟨hcl, hf⟩ := (he c hc).field Try.underlying30
    have hl2 := hl c hc
    obtain ⟨a, ha, -⟩ := (hf 0 _ rfl).int Try.underlying3
    obtain ⟨b, hb, -⟩ := (hf 1 _ rfl).int Try.underlying3
    have h3 : Try.prog.cellsOf 3 = 1 := by kernel_rfl
    match c, hl2 with
    | [x, y], _ =>
      simp [h3] at ha hb
      exact ⟨(a, b), by simp [stepC, ha, hb]⟩)
  exact ⟨l, by simpa using hr⟩
/-- Bytes of the call's own, one of them written. -/
theorem Ob.at_ {w : World} {A : Option Addr} {n c : Nat} {l : List Int} (h : Ob w (.slice A n c) l) (hn : 0 < l.length) : ∃ k, A = some ⟨k, 0, none⟩ ∧ n = l.length ∧ (∀ i, i < l.length → w.cell? ⟨k, i, none⟩ = some (.int .u8 (l.getD i 0)) ∧ w.frozen? ⟨k, i, none⟩ = false) ∧
    ∀ i y, i < l.length → 0 ≤ y → y < 256 → Ob (w.setCell ⟨k, i, none⟩ (.int .u8 y)) (.slice (some ⟨k, 0, none⟩) n c) (l.set i y) := by
  obtain ⟨⟨hl, ⟨hv, h0⟩ | ⟨g, cap, cur, hv, hb, hh, hcap, hmax, hsz, ht⟩⟩, hB⟩ := id h
  · omega
  · injection hv with e1 e2 e3
    subst e1 e2 e3
    refine ⟨g, rfl, rfl, fun i hi => ⟨?_, row_free hh⟩, fun i y hi y0 y1 => ⟨⟨by rw [u8s_length]; simp, .inr ⟨g, c, cur.setIfInBounds i (.int .u8 y), by simp, hb, row_set hh _ rfl, by simp; exact hcap, hmax, by simp [hsz], ?_⟩⟩, ?_⟩⟩
    · have := h.1.cells (g := g) rfl i (.int .u8 (l.getD i 0)) (by simp [u8s, List.getElem?_map, List.getD_eq_getElem?_getD, List.getElem?_eq_getElem hi])
      rwa [Addr.add_lit, Nat.zero_add] at this
    · rw [Array.toList_setIfInBounds, List.length_set, List.take_set, ht]
      simp [u8s, List.map_set]
    · intro x hx
      rcases List.mem_or_eq_of_mem_set hx with h | rfl
      · exact hB x h
      · exact ⟨y0, y1⟩
theorem Bs.and {w : World} {S S' : Nat → Prop} {v : Value} {l : List Int} (h : Bs w S v l) (h' : Bs w S' v l) : Bs w (fun b => S b ∨ S' b) v l := by
  obtain ⟨A, c, e0, q1, q2, q3, q4, q5⟩ := h
  obtain ⟨A', c', e0', -, -, -, -, q5'⟩ := h'
  obtain ⟨rfl, -, rfl⟩ : A = A' ∧ l.length = l.length ∧ c = c' := by rw [e0] at e0'; injection e0' with a b c; exact ⟨a, b, c⟩
  exact ⟨A, c, e0, q1, q2, q3, q4, fun a ha hn => ⟨(q5 a ha hn).1, fun h => h.elim (q5 a ha hn).2.1 (q5' a ha hn).2.1, (q5 a ha hn).2.2⟩⟩
theorem Bs.news' {w : World} {S : Nat → Prop} {v : Value} {l : List Int} (h : Bs w S v l) : isB l := by
  obtain ⟨A, c, e0, q1, q2, q3, q4, q5⟩ := h
  exact q4
end Go.Proofs.Ytgfhhnmhpncnlaa
