/-
  Arguments that came in, opened as the rows of this seat's words. No condition.
-/
import Derived.Test.YtgfhhnmhpncnlaaF
import Derived.ProofKit
import Derived.OpenShut
import Derived.SizedLaws
namespace Go.Proofs.Ytgfhhnmhpncnlaa
open Go.ChangeShapes Go.WideShapes Go.ChangeAt Go.RowKit
set_option linter.unusedVariables false
set_option linter.unusedSimpArgs false
section
variable {H : Type} {enc : TypeId × Value → H} {P : Program} {W : World} {base : Nat} {spare : Nat → Bool} {held : Bool} {t e : TypeId} {k : IntKind} {v : Value} {d : DataW H} {ps : List MemPlace}
/-- A slice of whole numbers that came in is a row. -/
theorem open_row (hu : P.underlying t = some (.slice e)) (he : P.underlying e = some (.int k)) (hc : P.cellsOf e = 1) (hval : Value.okWide P W .any base t v)
    (h : DataW.Trod enc P W 0 (fun _ => true) true t v d ps) : ∃ l : List Int, Row W (fun _ => False) 1 v l.length (nums k l) ∧ ∀ x ∈ l, (Lit.int k x).wf = true := by
  obtain ⟨a, len, cap, rfl⟩ := okWide_slice hu hval
  obtain ⟨fuel, hf⟩ := h
  rcases open_ints hu he hc hf with ⟨hcs, _⟩ | ⟨x, l, c, zs, hcs, _, hl, hm, hz, _, hcell, hwz⟩
  · simp [Value.cells] at hcs
    obtain ⟨rfl, rfl, rfl⟩ := hcs
    exact ⟨[], ⟨rfl, none, 0, rfl, Nat.le_refl _, by decide, fun _ => rfl, fun a h => by cases h⟩, fun x h => by cases h⟩
  · simp [Value.cells] at hcs
    obtain ⟨rfl, rfl, rfl⟩ := hcs
    have hzl : zs.length = cap := by simpa using hz
    have hlt : (zs.take len).length = len := by simp; omega
    refine ⟨zs.take len, ⟨by rw [nums_length, Nat.mul_one], some x, cap, by rw [hlt], by omega, hm, (fun h => by cases h), fun a ha hn => ?_⟩, fun y hy => hwz y (List.mem_of_mem_take hy)⟩
    obtain rfl : x = a := by injection ha
    rw [hlt] at hn
    have h0 := hcell 0 (by omega)
    have hsp := World.cell?_spot h0
    obtain ⟨b, o, s⟩ := x
    have hs : s = none := by simpa [Addr.add] using hsp
    subst hs
    refine ⟨b, o, rfl, fun h => h, ?_, fun j u hj => ?_⟩
    · have := World.block_lt_of_cell? W _ h0; rwa [add_block] at this
    · have hjl : j < (zs.take len).length := by have := (List.getElem?_eq_some_iff.1 hj).1; rwa [nums_length] at this
      have := hcell j (by omega)
      rw [Addr.add_lit] at this
      rw [this]
      rw [nums_at k _ hjl] at hj
      rw [← hj]
      simp [List.getD_eq_getElem?_getD, List.getElem?_take, show j < len by omega]
/-- It is no longer than its weight allows. -/
theorem row_sized {ts : List TypeId} {ds : List (DataW H)} {j : Nat} {l : List Int} {S : Nat → Prop} {xs : List Value} {sz : Nat}
    (hsz : (DataW.weightsEach P ts ds).all (· ≤ reachBytes) = true) (ht : ts[j]? = some t) (hd : ds[j]? = some d) (hu : P.underlying t = some (.slice e)) (he : P.underlying e = some (.int k)) (hc : P.cellsOf e = 1) {B : Nat} (hB : P.bytesOf e = B)
    (h : DataW.Trod enc P W base spare held t v d ps) (hr : Row W S sz v l.length xs) : l.length * B ≤ 140737488351232 := by
  obtain ⟨_, a, cap, rfl, -⟩ := hr
  obtain ⟨fuel, hf⟩ := h
  rcases open_ints hu he hc hf with ⟨hcs, _⟩ | ⟨x, len, c, zs, hcs, _, hl, _, hz, hx, _, _⟩
  · simp [Value.cells] at hcs
    obtain ⟨-, h0, -⟩ := hcs
    rw [h0]; simp
  · simp [Value.cells] at hcs
    obtain ⟨-, h1, rfl⟩ := hcs
    obtain ⟨hx, _⟩ := Prod.mk.inj hx
    subst hx
    have z := sized_slice hsz ht hd hu
    rw [hB] at z
    have hl2 : len ≤ zs.length := by
      rw [hz]
      split
      · exact hl
      · exact Nat.le_refl _
    have h2 : (lits (H := H) k (zs.take len)).length + (lits (H := H) k (zs.drop len)).length = zs.length := by
      simp [lits]
      omega
    rw [h2] at z
    rw [h1]
    exact Nat.le_trans (Nat.mul_le_mul_right _ hl2) z
end
/-- Bytes that came in. -/
theorem bs_of_row {W : World} {S : Nat → Prop} {v : Value} {l : List Int} (h : Row W S 1 v l.length (nums .u8 l)) (hw : ∀ x ∈ l, (Lit.int .u8 x).wf = true) : Bs W S v l := by
  obtain ⟨h0, A, c, rfl, h1, h2, h3, h5⟩ := h
  refine ⟨A, c, rfl, h1, h2, h3, fun x hx => ?_, fun a ha hn => ?_⟩
  · have := bounds_u8 (hw x hx); omega
  · obtain ⟨b, o, rfl, p2, p3, p4⟩ := h5 a ha hn
    refine ⟨rfl, p2, p3, fun j hj => ?_⟩
    rw [Addr.add_lit]; exact p4 j _ (nums_at .u8 l hj)
theorem isN_u16 {l : List Int} (hw : ∀ x ∈ l, (Lit.int .u16 x).wf = true) : isN 65536 l := fun x hx => by have := bounds_u16 (hw x hx); omega
theorem isN_u32 {l : List Int} (hw : ∀ x ∈ l, (Lit.int .u32 x).wf = true) : isN 4294967296 l := fun x hx => by have := bounds_u32 (hw x hx); omega

/-- v's own row lies from block B on. -/
def Lo (B : Nat) (v : Value) : Prop := ∀ b, v.ownBlock = some b → B ≤ b
theorem Lo.next {B : Nat} {w : World} {v v' : Value} (h : Lo B v) (hn : Nx w v v') (hB : B ≤ w.heap.size) : Lo B v' := fun b hb => by
  rcases hn with hn | ⟨k, hn, hk⟩
  · exact h b (hn ▸ hb)
  · rw [hn] at hb; cases hb; omega
theorem Lo.mono {B B' : Nat} {v : Value} (h : Lo B v) (hb : B' ≤ B) : Lo B' v := fun b hv => Nat.le_trans hb (h b hv)
theorem Fr.belowB {v : Value} {w w' : World} (h : FrV v w w') {B : Nat} (hl : Lo B v) (hB : B ≤ w.heap.size) : Below B w w' :=
  ⟨h.os, h.tape, h.output, h.size, fun k hk => h.block k (Nat.lt_of_lt_of_le hk hB) (fun hb => by have := hl k hb; omega)⟩
theorem Fr.ofB {B : Nat} {w w' : World} (h : Below B w w') : Fr (fun b => B ≤ b) w w' := ⟨h.os, h.tape, h.output, h.size, fun k _ hn => h.block k (by omega)⟩
theorem Ob.below {B : Nat} {w w' : World} {v : Value} {l : List Int} (h : Ob w v l) (hb : Below B w w') (hlt : ∀ b, v.ownBlock = some b → b < B) : Ob w' v l :=
  h.fr (Fr.ofB hb) (fun b hv hB => by have := hlt b hv; omega)
theorem Bs.below {B : Nat} {w w' : World} {S : Nat → Prop} {v : Value} {l : List Int} (h : Bs w S v l) (hb : Below B w w') (hB : ∀ b, b < w.heap.size → B ≤ b → S b) : Bs w' S v l := h.fr (Fr.ofB hb) hB
theorem Row.below {B : Nat} {w w' : World} {S : Nat → Prop} {sz n : Nat} {v : Value} {xs : List Value} (h : Row w S sz v n xs) (hb : Below B w w') (hB : ∀ b, b < w.heap.size → B ≤ b → S b) : Row w' S sz v n xs := h.fr (Fr.ofB hb) hB
/-- A copy of bytes: append([]byte{}, b...). -/
theorem wp_cloneB {w : World} {o : Oper} {a : Act} {K : Act → World → Prop} {Q : Exit → Act → World → Prop} (s x : Operand)
    (ho : o.op = .call { callee := .builtin .append, args := #[s, x], argTypes := #[22, 22] })
    {xv : Value} {m : List Int} (hs : a.eval s = .slice (some ⟨w.heap.size, 0, none⟩) 0 0) {S : Nat → Prop} (hx : a.eval x = xv) (hb : Bs w S xv m) (hl : m.length ≤ 140737488355328)
    (h : ∀ v' w', Ob w' v' m → Lo w.heap.size v' → Below w.heap.size w w' → K (a.put o.dst v') w') : Oper.wp Try.prog o a (w.alloc (.cells #[] 5)) K Q := by
  have hal : Fr (fun _ => False) w (w.alloc (.cells #[] 5)) := (Fr.refl _ w).alloc _
  have hbl : Below w.heap.size w (w.alloc (.cells #[] 5)) := (Below.refl _ _).alloc (Nat.le_refl _) _
  have hlo : Lo w.heap.size (.slice (some ⟨w.heap.size, 0, none⟩) 0 0) := fun b hb => Nat.le_of_eq (Option.some.inj hb)
  refine wp_appB s x ho hs (Ob.empty w) hx (hb.fr hal (fun _ _ h => h.elim)) (by simpa using hl) (fun v' w' h1 h2 h3 => h v' w' (by simpa using h1) (hlo.next h2 hal.size) (hbl.trans (h3.belowB hlo hal.size)))
theorem wpList_cloneB {w : World} {ops : Array Oper} {rest : List Oper} {o : Oper} {a : Act} {Q : Exit → Act → World → Prop} (hgd : o.guard = none) (s x : Operand)
    (ho : o.op = .call { callee := .builtin .append, args := #[s, x], argTypes := #[22, 22] })
    {xv : Value} {m : List Int} (hs : a.eval s = .slice (some ⟨w.heap.size, 0, none⟩) 0 0) {S : Nat → Prop} (hx : a.eval x = xv) (hb : Bs w S xv m) (hl : m.length ≤ 140737488355328)
    (h : ∀ v' w', Ob w' v' m → Lo w.heap.size v' → Below w.heap.size w w' → wpList Try.prog ops Q rest (a.put o.dst v') w') : wpList Try.prog ops Q (o :: rest) a (w.alloc (.cells #[] 5)) :=
  wpList_of_wp hgd fun _ hK => wp_cloneB s x ho hs hx hb hl (fun v' w' h1 h2 h3 => hK _ _ (h v' w' h1 h2 h3))
theorem str_append (l m : List Int) : strOfNums l ++ strOfNums m = strOfNums (l ++ m) := by
  apply ByteArray.ext
  simp [strOfNums]
theorem Row.out {w : World} {S : Nat → Prop} {sz n : Nat} {v : Value} {xs : List Value} (h : Row w S sz v n xs) : Row w (fun b => w.heap.size ≤ b) sz v n xs := by
  obtain ⟨h0, A, c, rfl, h1, h2, h3, h5⟩ := h
  refine ⟨h0, A, c, rfl, h1, h2, h3, fun a ha hn => ?_⟩
  obtain ⟨b, o, p1, p2, p3, p4⟩ := h5 a ha hn
  exact ⟨b, o, p1, by omega, p3, p4⟩
theorem Bs.out {w : World} {S : Nat → Prop} {v : Value} {l : List Int} (h : Bs w S v l) : Bs w (fun b => w.heap.size ≤ b) v l := by
  obtain ⟨A, c, h0, h1, h2, h3, h4, h5⟩ := h
  refine ⟨A, c, h0, h1, h2, h3, h4, fun a ha hn => ?_⟩
  obtain ⟨p1, p2, p3, p4⟩ := h5 a ha hn
  exact ⟨p1, by omega, p3, p4⟩
/-- What came in, read in a later world. -/
theorem Row.later {B : Nat} {w w' : World} {sz n : Nat} {v : Value} {xs : List Value} (h : Row w (fun b => B ≤ b) sz v n xs) (hb : Below B w w') : Row w' (fun b => B ≤ b) sz v n xs := h.below hb (fun _ _ h => h)
theorem Bs.later {B : Nat} {w w' : World} {v : Value} {l : List Int} (h : Bs w (fun b => B ≤ b) v l) (hb : Below B w w') : Bs w' (fun b => B ≤ b) v l := h.below hb (fun _ _ h => h)
theorem Ob.old {w : World} {v : Value} {l : List Int} (h : Ob w v l) : Bs w (fun b => w.heap.size ≤ b) v l := h.bs (fun b hb h2 => by have := h.lt b hb; omega)
theorem Bs.take {w : World} {S : Nat → Prop} {A : Option Addr} {n c : Nat} {l : List Int} (h : Bs w S (.slice A n c) l) {j : Nat} (hj : j ≤ l.length) : Bs w S (.slice A j c) (l.take j) := by
  obtain ⟨A', c', hv, h1, h2, h3, h4, h5⟩ := h
  injection hv with e1 e2 e3
  subst e1 e2 e3
  have hlen : (l.take j).length = j := by simp; omega
  refine ⟨A, c, by rw [hlen], by omega, h2, h3, fun x hx => h4 x (List.mem_of_mem_take hx), fun a ha hn => ?_⟩
  obtain ⟨p1, p2, p3, p4⟩ := h5 a ha (by omega)
  refine ⟨p1, p2, p3, fun k hk => ?_⟩
  rw [p4 k (by omega)]
  simp [List.getD_eq_getElem?_getD, List.getElem?_take, show k < j by omega]
/-- A cut with no lower bound runs. -/
theorem cut_take {P : Program} (t e : TypeId) (kh : IntKind) {z : Value} {b : Nat} (ht : P.underlying t = some (.slice e)) (hinfo : (P.info? e).map (fun i => (i.zero, i.size, i.bytes)) = some (some z, 1, b)) (A : Option Addr) (n c m : Nat) (h2 : m ≤ n) (hc : n ≤ c) (hA : A = none → c = 0) :
    ∀ W : World, (Instr.slice t (.slice A n c) none (some (.int kh (m : Int))) none).run P W = .ok (.slice A m c) W := by
  obtain ⟨i, hi, hz0, hz1, hz2⟩ := info_parts hinfo
  intro W
  have hel : P.elem t = e := by simp [Program.elem, ht]
  have hu : P.underlying t = some (.slice (P.elem t)) := by rw [hel]; exact ht
  rw [run_slice_h W t A n c hu kh (m : Int) (by omega) (by omega), hel]
  simp [sizeOf, typeInfo, hi, hz1, sliced, Result.andThen]
  intro _
  cases A <;> simp [Addr.add]
theorem Bs.nilcap {w : World} {S : Nat → Prop} {A : Option Addr} {n c : Nat} {l : List Int} (h : Bs w S (.slice A n c) l) : n = l.length ∧ n ≤ c ∧ c ≤ 9223372036854775807 ∧ (A = none → c = 0) := by
  obtain ⟨A', c', hv, h1, h2, h3, h4, h5⟩ := h
  injection hv with e1 e2 e3
  subst e1 e2 e3
  exact ⟨rfl, h1, by unfold maxLen at h2; omega, h3⟩
theorem run_str_add (l m : List Int) (h : l.length + m.length ≤ 9223372036854775807) (W : World) : (Op.stringOp .add (strOfNums l) (strOfNums m)).run Try.prog W = .ok (.string (strOfNums (l ++ m))) W := by
  have : ¬ (((strOfNums l).size + (strOfNums m).size : Nat) : Int) > IntKind.i64.max := by rw [strOfNums_size, strOfNums_size]; simp [IntKind.max, IntKind.bits, IntKind.signed]; omega
  simp only [Op.stringOp, if_neg this, str_append]
  rfl
theorem Lo.nil (B : Nat) : Lo B (.slice none 0 0) := fun b h => by cases h
/-- A literal list of one byte slice. -/
theorem RowsB.one {w : World} {S : Nat → Prop} {A : Option Addr} {n c : Nat} {l : List Int} (h : Bs w S (.slice A n c) l) (hS : ∀ b, S b → b < w.heap.size) :
    RowsB (w.alloc (.cells #[.slice A n c] 22)) S (.slice (some ⟨w.heap.size, 0, none⟩) 1 1) [l] := by
  have hal : Fr (fun _ => False) w (w.alloc (.cells #[.slice A n c] 22)) := (Fr.refl _ w).alloc _
  refine ⟨[.slice A n c], ⟨rfl, _, _, rfl, Nat.le_refl _, by decide, (fun h => by cases h), fun a ha _ => ?_⟩, fun j u hj => ?_⟩
  · obtain rfl : (⟨w.heap.size, 0, none⟩ : Addr) = a := by injection ha
    refine ⟨_, _, rfl, fun h => by have := hS _ h; omega, by simp, fun j u hj => ?_⟩
    have := new_cells w [.slice A n c] 22 _ rfl j u hj
    rwa [Addr.add_lit] at this
  · cases j with
    | zero => simp at hj; subst hj; exact h.fr hal (fun _ _ h => h.elim)
    | succ j => simp at hj
/-- The held condition may be made stronger on the way. -/
theorem wpAnyH_more {P : Program} {md : Region.Mode} {ops : Array Oper} {Q : Exit → Act → World → Prop} {S S' : World → Prop} (hS : ∀ W, S' W → S W) : ∀ {fuel : Nat} {listed : Array Bool} {a : Act} {w : World}, wpAnyH P md ops Q S' fuel listed a w → wpAnyH P md ops Q S fuel listed a w
  | 0, _, _, _, h => h
  | fuel + 1, _, _, _, h => ⟨h.1, fun i hi => wpOp_mono (fun a' w' h' => ⟨hS _ h'.1, wpAnyH_more hS h'.2⟩) (h.2 i hi)⟩
theorem RowsB.grow {w w' : World} {S S1 S' : Nat → Prop} {v : Value} {ms : List (List Int)} (h : RowsB w S v ms) (hf : Fr S1 w w') (h1 : ∀ b, S1 b → S b) (hS : ∀ b, S' b → w.heap.size ≤ b) : RowsB w' S' v ms := by
  obtain ⟨vs, hr, hv⟩ := h
  refine ⟨vs, ?_, fun j u hj => ?_⟩
  · exact (hr.fr hf (fun b _ hb => h1 b hb) |> fun k => by
      obtain ⟨h0, A, c, rfl, q1, q2, q3, q5⟩ := hr
      obtain ⟨-, A', c', hv', -, -, -, q5'⟩ := k
      injection hv' with e1 e2 e3
      subst e1 e3
      refine ⟨h0, A, c, rfl, q1, q2, q3, fun a ha hn => ?_⟩
      obtain ⟨b, o, p1, p2, p3, p4⟩ := q5 a ha hn
      obtain ⟨b', o', p1', p2', p3', p4'⟩ := q5' a ha hn
      subst p1
      injection p1' with e1 e2 e3
      subst e1 e2
      exact ⟨b, o, rfl, fun hb => by have := hS b hb; omega, p3', p4'⟩)
  · have h0 := hv j u hj
    obtain ⟨A, c, e0, q1, q2, q3, q4, q5⟩ := h0.fr hf (fun b _ hb => h1 b hb)
    obtain ⟨A', c', e0', -, -, -, -, q5'⟩ := h0
    obtain ⟨rfl, -, rfl⟩ : A = A' ∧ (ms.getD j []).length = (ms.getD j []).length ∧ c = c' := by rw [e0] at e0'; injection e0' with a b c; exact ⟨a, b, c⟩
    refine ⟨A, c, e0, q1, q2, q3, q4, fun a ha hn => ?_⟩
    obtain ⟨p1, p2, p3, p4⟩ := q5 a ha hn
    exact ⟨p1, fun hb => by have := hS _ hb; have := (q5' a ha hn).2.2.1; omega, p3, p4⟩
end Go.Proofs.Ytgfhhnmhpncnlaa
