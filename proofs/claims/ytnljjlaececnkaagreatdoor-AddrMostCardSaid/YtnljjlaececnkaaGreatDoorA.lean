/-
  Frames and rows: the words that the contracts of this seat use. No condition.
-/
import Derived.Test.YtnljjlaececnkaaGreatDoorRows
import Derived.WalkKit
import Derived.WalkSpells
import Derived.WalkLawsBesides
import Derived.Deep.QuietTactic
import Derived.BigQuiet
import Derived.StillTailTactics
import Derived.Deep.RegionHeld3
import Derived.Deep.RegionWith
import Derived.Deep.DeepCutAuto
import Derived.Deep.DeepFit
import Derived.Deep.CutBlock
import Derived.Deep.OwnRows
import Derived.Lib.Hide
import Derived.LaidEqlPtr
import Derived.Maps.AppendAt
import Derived.ProofKit
import Derived.OpenShut
import Derived.SizedLaws
namespace Go.Proofs.YtnljjlaececnkaaGreatDoor
open Go.ChangeShapes Go.WideShapes Go.ChangeAt Go.RowKit
set_option linter.unusedVariables false
set_option linter.unusedSimpArgs false
/-- But for the blocks of S, what was there is as it was; the streams too. -/
structure Fr (S : Nat → Prop) (w w' : World) : Prop where
  os : w'.os = w.os
  tape : w'.tape = w.tape
  output : w'.output = w.output
  size : w.heap.size ≤ w'.heap.size
  block : ∀ k, k < w.heap.size → ¬ S k → w'.heap[k]? = w.heap[k]?
namespace Fr
variable {S S' : Nat → Prop} {w w' w2 : World}
theorem refl (S : Nat → Prop) (w : World) : Fr S w w := ⟨rfl, rfl, rfl, Nat.le_refl _, fun _ _ _ => rfl⟩
theorem trans (h : Fr S w w') (k : Fr S' w' w2) (hs : ∀ b, S' b → S b ∨ w.heap.size ≤ b) : Fr S w w2 :=
  ⟨k.os.trans h.os, k.tape.trans h.tape, k.output.trans h.output, Nat.le_trans h.size k.size,
   fun b hb hn => (k.block b (Nat.lt_of_lt_of_le hb h.size) (fun h2 => (hs b h2).elim hn (fun h3 => by omega))).trans (h.block b hb hn)⟩
theorem mono (h : Fr S w w') (hs : ∀ b, S b → S' b) : Fr S' w w' := ⟨h.os, h.tape, h.output, h.size, fun b hb hn => h.block b hb (fun h2 => hn (hs b h2))⟩
theorem of_below (h : Below w.heap.size w w') : Fr S w w' := ⟨h.os, h.tape, h.output, h.size, fun b hb _ => h.block b hb⟩
theorem below (h : Fr S w w') (hs : ∀ b, S b → w.heap.size ≤ b) : Below w.heap.size w w' := ⟨h.os, h.tape, h.output, h.size, fun b hb => h.block b hb (fun h2 => by have := hs b h2; omega)⟩
theorem alloc (h : Fr S w w') (o : Obj) : Fr S w (w'.alloc o) :=
  h.trans (S' := fun _ => False) ⟨rfl, rfl, rfl, by simp, fun b hb _ => Below.heap_alloc _ _ _ hb⟩ (fun _ h => h.elim)
theorem drew (h : Fr S w w') : Fr S w w'.drew := ⟨h.os, h.tape, h.output, h.size, h.block⟩
theorem drewN (h : Fr S w w') (n : Nat) : Fr S w (w'.drewN n) := ⟨h.os, h.tape, h.output, h.size, h.block⟩
theorem setCell (h : Fr S w w') {p : Addr} (hp : S p.block ∨ w.heap.size ≤ p.block) (u : Value) : Fr S w (w'.setCell p u) :=
  h.trans (S' := fun b => b = p.block) ⟨rfl, rfl, rfl, by simp [World.setCell], fun b _ hn => Below.heap_setCell _ _ _ _ hn⟩ (fun b hb => hb ▸ hp)
theorem grown (h : Fr S w w') {row : Option Nat} (hg : w'.grownBy w2 row) (hr : ∀ b, row = some b → S b ∨ w.heap.size ≤ b) : Fr S w w2 :=
  h.trans (S' := fun b => row = some b) ⟨hg.os, hg.tape, hg.output, hg.size, fun b hb hn => hg.block b hb (fun e => hn e.symm)⟩ hr
theorem cell (h : Fr S w w') {a : Addr} {v : Value} (hc : w.cell? a = some v) (hn : ¬ S a.block) : w'.cell? a = some v :=
  (World.cell?_of_block (w := w) (h.block a.block (World.block_lt_of_cell? w a hc) hn)).trans hc
theorem obj (h : Fr S w w') {g : Nat} {o : Obj} (hb : w.heap[g]? = some o) (hn : ¬ S g) : w'.heap[g]? = some o :=
  (h.block g (Array.getElem?_eq_some_iff.1 hb).1 hn).trans hb
end Fr
theorem add_block (a : Addr) (i : Nat) : (a.add i).block = a.block := by unfold Addr.add; split <;> rfl
section
variable {P : Program}
/-- Appending what is nil: nothing turns. -/
theorem run_append_nil (w : World) (t ty e : TypeId) (i : TypeInfo) (ht : P.underlying t = some (.slice e)) (hi : P.info? e = some i) (A : Option Addr) (n c c' : Nat) (hc : n ≤ c) :
    (Builtin.append_ #[t, t] ty #[.slice A n c, .slice none 0 c']).run P w = .ok (.slice A n c) w := by
  cases A with
  | none => simp [Builtin.append_, run_underlying ht, sizeOf, typeInfo, hi, Builtin.lenOf, hc, Builtin.firstCells]
  | some a => simp [Builtin.append_, run_underlying ht, sizeOf, typeInfo, hi, Builtin.lenOf, hc, Builtin.firstCells, storeCells]

/-- v' lies where v lay, or is new. -/
def Nx (w : World) (v v' : Value) : Prop := v'.ownBlock = v.ownBlock ∨ ∃ k, v'.ownBlock = some k ∧ w.heap.size ≤ k
theorem Nx.refl (w : World) (v : Value) : Nx w v v := .inl rfl
theorem Nx.trans {w w1 : World} {v v1 v2 : Value} (h : Nx w v v1) (k : Nx w1 v1 v2) (hs : w.heap.size ≤ w1.heap.size) : Nx w v v2 := by
  rcases k with k | ⟨b, k, hb⟩
  · rcases h with h | ⟨b, h, hb⟩
    · exact .inl (k.trans h)
    · exact .inr ⟨b, k.trans h, hb⟩
  · exact .inr ⟨b, k, Nat.le_trans hs hb⟩
/-- The frame of what may write v's own row. -/
abbrev FrV (v : Value) (w w' : World) : Prop := Fr (fun b => v.ownBlock = some b) w w'
theorem FrV.step {v v1 : Value} {w w1 w2 : World} (h : FrV v w w1) (hn : Nx w v v1) (k : FrV v1 w1 w2) : FrV v w w2 :=
  Fr.trans h k (fun b hb => by
    rcases hn with hn | ⟨c, hn, hc⟩
    · exact .inl (hn ▸ hb)
    · rw [hn] at hb; cases hb; exact .inr hc)

/-- An append to a row of the call's own, of a slice whatever it is. -/
theorem wp_app (w : World) {o : Oper} {a : Act} {K : Act → World → Prop} {Q : Exit → Act → World → Prop} (s x : Operand) (t : TypeId)
    (ho : o.op = .call { callee := .builtin .append, args := #[s, x], argTypes := #[t, t] })
    (e : TypeId) (z : Value) (size bytes : Nat) (ht : P.underlying t = some (.slice e)) (hinfo : (P.info? e).map (fun i => (i.zero, i.size, i.bytes)) = some (some z, size, bytes))
    (hzs : z.cells.size = size) (hsz : 0 < size)
    (v : Value) (n : Nat) (xs : List Value) (hs : a.eval s = v) (hown : w.ownsRow 0 e size v n xs)
    (A : Option Addr) (m c : Nat) (news : List Value) (hx : a.eval x = .slice A m c) (hl : news.length = m * size) (hA : A = none → m = 0) (hnews : ∀ ad, A = some ad → ∀ j u, news[j]? = some u → w.cell? (ad.add j) = some u) (h1 : ∀ u ∈ news, u.oneCell' = true)
    (hbytes : (n + m) * bytes ≤ 140737488355328) (hb0 : 0 < bytes)
    (h : ∀ v' w', w'.ownsRow 0 e size v' (n + m) (xs ++ news) → Nx w v v' → FrV v w w' → K (a.put o.dst v') w') : Oper.wp P o a w K Q := by
  obtain ⟨i, hi, hz0, hz1, hz2⟩ := info_parts hinfo
  have h63 : n + m ≤ maxLen := by
    have : n + m ≤ (n + m) * bytes := Nat.le_mul_of_pos_right _ hb0
    unfold maxLen; omega
  cases A with
  | some ad =>
    obtain ⟨v', w', hr, h2, h3, _, h5⟩ := run_append_own_at (P := P) w 0 t o.type e i z size bytes ht hi hz0 hz1 hz2 hzs hsz v n xs hown ad m c news hl (hnews ad rfl) h1 h63 hbytes (Nat.zero_le _)
    unfold Oper.wp execOp
    simp only [ho, resolve, invoke, builtin, Sem.run_bind, Sem.run_pure, Result.andThen_ok, List.map_toArray, List.map_cons, List.map_nil, hs, hx, hr]
    refine h v' w' h2 ?_ ((Fr.refl _ w).grown h3 (fun b hb => .inl hb))
    rcases h5 with h5 | h5
    · exact .inl h5
    · exact .inr ⟨_, h5, Nat.le_refl _⟩
  | none =>
    obtain rfl := hA rfl
    obtain rfl : news = [] := List.eq_nil_of_length_eq_zero (by simpa using hl)
    have hv : ∃ A c0, v = .slice A n c0 ∧ n ≤ c0 := by
      obtain ⟨_, ⟨rfl, rfl⟩ | ⟨g, cap, cur, rfl, _, _, hcap, _⟩⟩ := hown
      · exact ⟨_, _, rfl, Nat.le_refl _⟩
      · exact ⟨_, _, rfl, hcap⟩
    obtain ⟨A, c0, rfl, hc0⟩ := hv
    have hr := run_append_nil (P := P) w t o.type e i ht hi A n c0 c hc0
    unfold Oper.wp execOp
    simp only [ho, resolve, invoke, builtin, Sem.run_bind, Sem.run_pure, Result.andThen_ok, List.map_toArray, List.map_cons, List.map_nil, hs, hx, hr]
    exact h _ _ (by simpa using hown) (Nx.refl _ _) (Fr.refl _ w)
/-- .. as a step of a list of operations, and as a step of a region. -/
theorem wpList_of_wp {w : World} {ops : Array Oper} {rest : List Oper} {o : Oper} {a : Act} {Q : Exit → Act → World → Prop} (hgd : o.guard = none)
    (h : ∀ K : Act → World → Prop, (∀ a w, wpList P ops Q rest a w → K a w) → Oper.wp P o a w K Q) : wpList P ops Q (o :: rest) a w :=
  wpList_plain hgd fun K hK => h K hK
theorem step_of_wp {w : World} {ops : Array Oper} {o : Oper} {a : Act} {K : Act → World → Prop} {Q : Exit → Act → World → Prop} {E : Prop} (hg : o.guard = none)
    (h : Oper.wp P o a w K Q) : if Region.wanted o (yielded ops a.tmps) = true then Oper.wp P o a w K Q else E := by
  rw [if_pos (by simp [Region.wanted, hg])]; exact h
end
theorem own_fr {w w' : World} {e size n : Nat} {v : Value} {xs : List Value} (h : w.ownsRow 0 e size v n xs) {S : Nat → Prop} (hf : Fr S w w') (hS : ∀ b, v.ownBlock = some b → ¬ S b) : w'.ownsRow 0 e size v n xs := by
  obtain ⟨h1, h2 | ⟨g, cap, cur, rfl, hg, hh, r⟩⟩ := h
  · exact ⟨h1, .inl h2⟩
  · exact ⟨h1, .inr ⟨g, cap, cur, rfl, hg, hf.obj hh (hS g rfl), r⟩⟩
theorem new_cells (W : World) (us : List Value) (e : TypeId) : ∀ ad, some (⟨W.heap.size, 0, none⟩ : Addr) = some ad → ∀ j u, us[j]? = some u → (W.alloc (.cells us.toArray e)).cell? (ad.add j) = some u := by
  intro ad had j u hj
  obtain rfl : (⟨W.heap.size, 0, none⟩ : Addr) = ad := by injection had
  have : (⟨W.heap.size, 0, none⟩ : Addr).add j = ⟨W.heap.size, j, none⟩ := by unfold Addr.add; split <;> simp_all
  rw [this, cell_of_row _ _ _ _ _ _ (heap_alloc_new W _)]
  simpa using hj
/-- A region that draws its order and reads, but for its forced end: the world behind a variable. -/
theorem wp_region_tail {P : Program} {id : Nat} {Q : Exit → Act → World → Prop} {a : Act} {w : World} {l : List Oper} (n : Nat) (hm : P.follows .mixedOrders = true) (hB : Region.lexTailB .any l.toArray n = true)
    (h : ∀ w2, w2 = w.drew → wpStill P l.toArray w2 (fun a' => wpList P l.toArray Q (l.drop n) a' w2) (l.take n) a) : (Code.region id l.toArray true).wp P Q a w :=
  wp_region_still_tail n hm hB (h _ rfl)
/-- A cut of a slice of one-cell elements runs. -/
theorem cut_mid {P : Program} (t e : TypeId) (kl kh : IntKind) {z : Value} {b size : Nat} (ht : P.underlying t = some (.slice e)) (hinfo : (P.info? e).map (fun i => (i.zero, i.size, i.bytes)) = some (some z, size, b)) (A : Option Addr) (n c : Nat) (lo hi' : Int) (h0 : 0 ≤ lo) (h1 : lo ≤ hi') (h2 : hi' ≤ n) (hc : n ≤ c) :
    ∀ W : World, (Instr.slice t (.slice A n c) (some (.int kl lo)) (some (.int kh hi')) none).run P W = .ok (.slice (if c = lo.toNat then A else A.map (·.add (lo.toNat * size))) (hi'.toNat - lo.toNat) (c - lo.toNat)) W := by
  obtain ⟨i, hi, hz0, hz1, hz2⟩ := info_parts hinfo
  intro W
  have hel : P.elem t = e := by simp [Program.elem, ht]
  have hu : P.underlying t = some (.slice (P.elem t)) := by rw [hel]; exact ht
  rw [run_slice_lh W t A n c hu kl kh lo hi' h0 h1 (by omega), hel]
  simp [sizeOf, typeInfo, hi, hz1, sliced, Result.andThen]
theorem row_cell {w : World} {g i : Nat} {cs : Array Value} {t : TypeId} {f : Nat × Nat} (h : w.heap[g]? = some (.cells cs t f)) : w.cell? ⟨g, i, none⟩ = cs[i]? := cell_of_row w g i cs t f h
theorem row_free {w : World} {g i : Nat} {cs : Array Value} {t : TypeId} (h : w.heap[g]? = some (.cells cs t (0, 0))) : w.frozen? ⟨g, i, none⟩ = false := by simp [World.frozen?, h]
theorem row_set {w : World} {g i : Nat} {cs cs' : Array Value} {t : TypeId} (h : w.heap[g]? = some (.cells cs t (0, 0))) (u : Value) (he : cs.setIfInBounds i u = cs') : (w.setCell ⟨g, i, none⟩ u).heap[g]? = some (.cells cs' t (0, 0)) := by
  simp [World.setCell, Array.getElem?_modify, h, he]
/-- The slice value v has n elements of sz cells each, and these are xs; its block is none of S. -/
def Row (w : World) (S : Nat → Prop) (sz : Nat) (v : Value) (n : Nat) (xs : List Value) : Prop :=
  xs.length = n * sz ∧ ∃ A c, v = .slice A n c ∧ n ≤ c ∧ c ≤ maxLen ∧ (A = none → c = 0) ∧
    ∀ a, A = some a → 0 < n → ∃ b o, a = ⟨b, o, none⟩ ∧ ¬ S b ∧ b < w.heap.size ∧ ∀ j u, xs[j]? = some u → w.cell? ⟨b, o + j, none⟩ = some u
theorem Row.fr {w w' : World} {S S' : Nat → Prop} {sz n : Nat} {v : Value} {xs : List Value} (h : Row w S sz v n xs) (hf : Fr S' w w') (hs : ∀ b, b < w.heap.size → S' b → S b) : Row w' S sz v n xs := by
  obtain ⟨h0, A, c, rfl, h1, h2, h3, h5⟩ := h
  refine ⟨h0, A, c, rfl, h1, h2, h3, fun a ha hn => ?_⟩
  obtain ⟨b, o, p1, p2, p3, p4⟩ := h5 a ha hn
  exact ⟨b, o, p1, p2, Nat.lt_of_lt_of_le p3 hf.size, fun j u hj => hf.cell (p4 j u hj) (fun h => p2 (hs _ p3 h))⟩
theorem Row.mono {w : World} {S S' : Nat → Prop} {sz n : Nat} {v : Value} {xs : List Value} (h : Row w S sz v n xs) (hs : ∀ b, S' b → S b) : Row w S' sz v n xs := by
  obtain ⟨h0, A, c, rfl, h1, h2, h3, h5⟩ := h
  refine ⟨h0, A, c, rfl, h1, h2, h3, fun a ha hn => ?_⟩
  obtain ⟨b, o, p1, p2, p3, p4⟩ := h5 a ha hn
  exact ⟨b, o, p1, fun h => p2 (hs _ h), p3, p4⟩
/-- The head of a slice, and where an element lies. -/
theorem Row.head {w : World} {S : Nat → Prop} {sz n : Nat} {v : Value} {xs : List Value} (h : Row w S sz v n xs) : ∃ A c, v = .slice A n c ∧ n ≤ c ∧ c ≤ 9223372036854775807 := by
  obtain ⟨h0, A, c, rfl, h1, h2, h3, h5⟩ := h
  exact ⟨A, c, rfl, h1, by unfold maxLen at h2; omega⟩
theorem Row.at_ {w : World} {S : Nat → Prop} {sz n c : Nat} {A : Option Addr} {xs : List Value} (h : Row w S sz (.slice A n c) n xs) (hn : 0 < n) :
    ∃ b o, A = some ⟨b, o, none⟩ ∧ ¬ S b ∧ b < w.heap.size ∧ ∀ j u, xs[j]? = some u → w.cell? ⟨b, o + j, none⟩ = some u := by
  obtain ⟨h0, A', c', hv, h1, h2, h3, h5⟩ := h
  injection hv with e1 e2 e3
  subst e1 e3
  cases A with
  | none => have := h3 rfl; omega
  | some a =>
    obtain ⟨b, o, rfl, p2, p3, p4⟩ := h5 a rfl hn
    exact ⟨b, o, rfl, p2, p3, p4⟩
/-- Numbers of a kind. -/
def nums (k : IntKind) (l : List Int) : List Value := l.map (Value.int k)
theorem nums_length (k : IntKind) (l : List Int) : (nums k l).length = l.length := by simp [nums]
theorem nums_at (k : IntKind) (l : List Int) {j : Nat} (h : j < l.length) : (nums k l)[j]? = some (.int k (l.getD j 0)) := by
  simp [nums, List.getElem?_map, List.getD_eq_getElem?_getD, List.getElem?_eq_getElem h]
section
variable {H : Type} {enc : TypeId × Value → H} {P : Program} {W : World} {base : Nat} {spare : Nat → Bool} {held : Bool} {t e : TypeId} {k : IntKind} {v : Value} {d : DataW H} {ps : List MemPlace}
/-- A slice of whole numbers that came in is a row. -/
theorem open_row (hu : P.underlying t = some (.slice e)) (he : P.underlying e = some (.int k)) (hc : P.cellsOf e = 1) (hval : Value.okWide P W .any base t v)
    (h : DataW.Trod enc P W 0 (fun _ => true) true t v d ps) : ∃ l : List Int, Row W (fun _ => False) 1 v l.length (nums k l) ∧ ∀ x ∈ l, (Lit.int k x).wf = true := by
  obtain ⟨a, len, cap, rfl⟩ := okWide_slice hu hval
  obtain ⟨fuel, hf⟩ := h
  rcases open_ints hu he hc hf with ⟨hcs, _⟩ | ⟨x, l, c, zs, hcs, _, hl, hm, hz, _, hcell, hwz⟩
  · simp [Value.cells] at hcs
    obtain ⟨rfl, rfl, rfl⟩ := hcs
    exact ⟨[], ⟨rfl, none, 0, rfl, Nat.le_refl _, by decide, fun _ => rfl, fun a h => by cases h⟩, fun x h => by cases h⟩
  · simp [Value.cells] at hcs
    obtain ⟨rfl, rfl, rfl⟩ := hcs
    have hzl : zs.length = cap := by simpa using hz
    have hlt : (zs.take len).length = len := by simp; omega
    refine ⟨zs.take len, ⟨by rw [nums_length, Nat.mul_one], some x, cap, by rw [hlt], by omega, hm, (fun h => by cases h), fun a ha hn => ?_⟩, fun y hy => hwz y (List.mem_of_mem_take hy)⟩
    obtain rfl : x = a := by injection ha
    rw [hlt] at hn
    have h0 := hcell 0 (by omega)
    have hsp := World.cell?_spot h0
    obtain ⟨b, o, s⟩ := x
    have hs : s = none := by simpa [Addr.add] using hsp
    subst hs
    refine ⟨b, o, rfl, fun h => h, ?_, fun j u hj => ?_⟩
    · have := World.block_lt_of_cell? W _ h0; rwa [add_block] at this
    · have hjl : j < (zs.take len).length := by have := (List.getElem?_eq_some_iff.1 hj).1; rwa [nums_length] at this
      have := hcell j (by omega)
      rw [Addr.add_lit] at this
      rw [this]
      rw [nums_at k _ hjl] at hj
      rw [← hj]
      simp [List.getD_eq_getElem?_getD, List.getElem?_take, show j < len by omega]
/-- It is no longer than its weight allows. -/
theorem row_sized {ts : List TypeId} {ds : List (DataW H)} {j : Nat} {l : List Int} {S : Nat → Prop} {xs : List Value} {sz : Nat}
    (hsz : (DataW.weightsEach P ts ds).all (· ≤ reachBytes) = true) (ht : ts[j]? = some t) (hd : ds[j]? = some d) (hu : P.underlying t = some (.slice e)) (he : P.underlying e = some (.int k)) (hc : P.cellsOf e = 1) {B : Nat} (hB : P.bytesOf e = B)
    (h : DataW.Trod enc P W base spare held t v d ps) (hr : Row W S sz v l.length xs) : l.length * B ≤ 140737488351232 := by
  obtain ⟨_, a, cap, rfl, -⟩ := hr
  obtain ⟨fuel, hf⟩ := h
  rcases open_ints hu he hc hf with ⟨hcs, _⟩ | ⟨x, len, c, zs, hcs, _, hl, _, hz, hx, _, _⟩
  · simp [Value.cells] at hcs
    obtain ⟨-, h0, -⟩ := hcs
    rw [h0]; simp
  · simp [Value.cells] at hcs
    obtain ⟨-, h1, rfl⟩ := hcs
    obtain ⟨hx, _⟩ := Prod.mk.inj hx
    subst hx
    have z := sized_slice hsz ht hd hu
    rw [hB] at z
    have hl2 : len ≤ zs.length := by
      rw [hz]
      split
      · exact hl
      · exact Nat.le_refl _
    have h2 : (lits (H := H) k (zs.take len)).length + (lits (H := H) k (zs.drop len)).length = zs.length := by
      simp [lits]
      omega
    rw [h2] at z
    rw [h1]
    exact Nat.le_trans (Nat.mul_le_mul_right _ hl2) z
end
/-- v's own row lies from block B on. -/
def Lo (B : Nat) (v : Value) : Prop := ∀ b, v.ownBlock = some b → B ≤ b
theorem Lo.next {B : Nat} {w : World} {v v' : Value} (h : Lo B v) (hn : Nx w v v') (hB : B ≤ w.heap.size) : Lo B v' := fun b hb => by
  rcases hn with hn | ⟨k, hn, hk⟩
  · exact h b (hn ▸ hb)
  · rw [hn] at hb; cases hb; omega
theorem Lo.mono {B B' : Nat} {v : Value} (h : Lo B v) (hb : B' ≤ B) : Lo B' v := fun b hv => Nat.le_trans hb (h b hv)
theorem Fr.belowB {v : Value} {w w' : World} (h : FrV v w w') {B : Nat} (hl : Lo B v) (hB : B ≤ w.heap.size) : Below B w w' :=
  ⟨h.os, h.tape, h.output, h.size, fun k hk => h.block k (Nat.lt_of_lt_of_le hk hB) (fun hb => by have := hl k hb; omega)⟩
theorem Fr.ofB {B : Nat} {w w' : World} (h : Below B w w') : Fr (fun b => B ≤ b) w w' := ⟨h.os, h.tape, h.output, h.size, fun k _ hn => h.block k (by omega)⟩
theorem Row.below {B : Nat} {w w' : World} {S : Nat → Prop} {sz n : Nat} {v : Value} {xs : List Value} (h : Row w S sz v n xs) (hb : Below B w w') (hB : ∀ b, b < w.heap.size → B ≤ b → S b) : Row w' S sz v n xs := h.fr (Fr.ofB hb) hB
theorem Row.out {w : World} {S : Nat → Prop} {sz n : Nat} {v : Value} {xs : List Value} (h : Row w S sz v n xs) : Row w (fun b => w.heap.size ≤ b) sz v n xs := by
  obtain ⟨h0, A, c, rfl, h1, h2, h3, h5⟩ := h
  refine ⟨h0, A, c, rfl, h1, h2, h3, fun a ha hn => ?_⟩
  obtain ⟨b, o, p1, p2, p3, p4⟩ := h5 a ha hn
  exact ⟨b, o, p1, by omega, p3, p4⟩
/-- What came in, read in a later world. -/
theorem Row.later {B : Nat} {w w' : World} {sz n : Nat} {v : Value} {xs : List Value} (h : Row w (fun b => B ≤ b) sz v n xs) (hb : Below B w w') : Row w' (fun b => B ≤ b) sz v n xs := h.below hb (fun _ _ h => h)
/-- A cut with no lower bound runs. -/
theorem cut_take {P : Program} (t e : TypeId) (kh : IntKind) {z : Value} {b : Nat} (ht : P.underlying t = some (.slice e)) (hinfo : (P.info? e).map (fun i => (i.zero, i.size, i.bytes)) = some (some z, 1, b)) (A : Option Addr) (n c m : Nat) (h2 : m ≤ n) (hc : n ≤ c) (hA : A = none → c = 0) :
    ∀ W : World, (Instr.slice t (.slice A n c) none (some (.int kh (m : Int))) none).run P W = .ok (.slice A m c) W := by
  obtain ⟨i, hi, hz0, hz1, hz2⟩ := info_parts hinfo
  intro W
  have hel : P.elem t = e := by simp [Program.elem, ht]
  have hu : P.underlying t = some (.slice (P.elem t)) := by rw [hel]; exact ht
  rw [run_slice_h W t A n c hu kh (m : Int) (by omega) (by omega), hel]
  simp [sizeOf, typeInfo, hi, hz1, sliced, Result.andThen]
  intro _
  cases A <;> simp [Addr.add]
theorem Lo.nil (B : Nat) : Lo B (.slice none 0 0) := fun b h => by cases h
/-- The held condition may be made stronger on the way. -/
theorem wpAnyH_more {P : Program} {md : Region.Mode} {ops : Array Oper} {Q : Exit → Act → World → Prop} {S S' : World → Prop} (hS : ∀ W, S' W → S W) : ∀ {fuel : Nat} {listed : Array Bool} {a : Act} {w : World}, wpAnyH P md ops Q S' fuel listed a w → wpAnyH P md ops Q S fuel listed a w
  | 0, _, _, _, h => h
  | fuel + 1, _, _, _, h => ⟨h.1, fun i hi => wpOp_mono (fun a' w' h' => ⟨hS _ h'.1, wpAnyH_more hS h'.2⟩) (h.2 i hi)⟩
section
variable {H : Type} {enc : TypeId × Value → H} {P : Program} {W : World}

/-- These cells read as data of this type, whose weights are small. -/
def Reads (enc : TypeId × Value → H) (P : Program) (W : World) (t : TypeId) (cs : List Value) : Prop :=
  ∃ fuel d ps, DataW.trod enc P W 0 (fun _ => true) true fuel t cs = some (d, ps) ∧ ∀ m ∈ d.weights P t, m ≤ reachBytes

theorem mapM_cells {w : World} {a : Addr} {n : Nat} {l : List Value} (h : w.cells? 0 a n = some l) : l.length = n ∧ ∀ i u, l[i]? = some u → w.cell? (a.add i) = some u := by
  unfold World.cells? at h
  rw [if_pos (Nat.zero_le _)] at h
  have hl : l.length = n := by simpa using mapM_some_length h
  refine ⟨hl, fun i u hi => ?_⟩
  have hin : i < n := by have := (List.getElem?_eq_some_iff.1 hi).1; omega
  have := mapM_some_get h i i (by simp [hin])
  rw [this]; exact hi

theorem flat_at {els : List (List Value)} {sz : Nat} (h : ∀ c ∈ els, c.length = sz) (hz : 0 < sz) (j : Nat) (u : Value) : els.flatten[j]? = some u → ∃ c, els[j / sz]? = some c ∧ c[j % sz]? = some u := by
  induction els generalizing j with
  | nil => intro hj; simp at hj
  | cons c els ih =>
    intro hj
    have hc := h c (by simp)
    rw [List.flatten_cons] at hj
    by_cases hlt : j < c.length
    · rw [List.getElem?_append_left hlt] at hj
      refine ⟨c, by rw [Nat.div_eq_of_lt (by omega)]; rfl, by rw [Nat.mod_eq_of_lt (by omega)]; exact hj⟩
    · rw [List.getElem?_append_right (by omega)] at hj
      obtain ⟨c', h1, h2⟩ := ih (fun c hc => h c (by simp [hc])) _ hj
      have hj2 : j = (j - c.length) + sz := by omega
      refine ⟨c', ?_, ?_⟩
      · rw [hj2, Nat.add_div_right _ hz, List.getElem?_cons_succ]; exact h1
      · rw [hj2, Nat.add_mod_right]; exact h2

theorem weightsAll_mem {e : TypeId} {ds : List (DataW H)} {d : DataW H} (h : d ∈ ds) {m : Nat} (hm : m ∈ d.weights P e) : m ∈ DataW.weightsAll P e ds := by
  induction ds with
  | nil => cases h
  | cons x ds ih =>
    simp only [DataW.weightsAll, List.mem_append]
    rcases List.mem_cons.1 h with rfl | h
    · exact .inl hm
    · exact .inr (ih h)

/-- A slice. -/
theorem Reads.slice {t e : TypeId} {sz B : Nat} {cs : List Value} (h : Reads enc P W t cs) (hu : P.underlying t = some (.slice e)) (hc : P.cellsOf e = sz) (hz : 0 < sz) (hB : P.bytesOf e = B) :
    ∃ (v : Value) (els : List (List Value)), cs = [v] ∧ (∀ c ∈ els, c.length = sz) ∧ Row W (fun _ => False) sz v els.length els.flatten ∧ els.length * B ≤ 140737488351232 ∧ ∀ c ∈ els, Reads enc P W e c := by
  subst hc hB
  obtain ⟨fuel, d, ps, h, hw⟩ := h
  rcases DataW.trod_slice hu h with ⟨rfl, hx⟩ | ⟨a, len, cap, elems, rest, n, rfl, rfl, hx, hb, hl, hm, hlen, hel, hsp, hns⟩
  · exact ⟨_, [], rfl, (fun c h => by cases h), ⟨by simp, none, 0, rfl, Nat.le_refl _, by decide, fun _ => rfl, fun a h => by cases h⟩, by simp, fun c h => by cases h⟩
  · obtain ⟨rfl, rfl⟩ := Prod.mk.inj hx
    have hget : ∀ i, i < len → ∃ c d' ps', W.cells? 0 (a.add (i * P.cellsOf e)) (P.cellsOf e) = some c ∧ elems[i]? = some (d', ps') ∧ DataW.trod enc P W 0 (fun _ => true) true n e c = some (d', ps') := by
      intro i hi
      have h1 := hel i hi
      have hie : i < elems.length := by omega
      rw [List.getElem?_eq_getElem hie] at h1
      obtain ⟨c, h2, h3⟩ := Option.bind_eq_some_iff.1 h1
      exact ⟨c, elems[i].1, elems[i].2, h2, by rw [List.getElem?_eq_getElem hie], h3⟩
    let els : List (List Value) := (List.range len).map fun i => ((W.cells? 0 (a.add (i * P.cellsOf e)) (P.cellsOf e)).getD [])
    have hels : ∀ i, i < len → ∃ c, els[i]? = some c ∧ W.cells? 0 (a.add (i * P.cellsOf e)) (P.cellsOf e) = some c := by
      intro i hi
      obtain ⟨c, _, _, h1, _, _⟩ := hget i hi
      exact ⟨c, by simp [els, hi, h1], h1⟩
    have hlen2 : els.length = len := by simp [els]
    have hall : ∀ c ∈ els, ∃ i, i < len ∧ W.cells? 0 (a.add (i * P.cellsOf e)) (P.cellsOf e) = some c := by
      intro c hc
      obtain ⟨i, hi, hic⟩ := List.mem_iff_getElem.1 hc
      obtain ⟨c', h1, h2⟩ := hels i (by omega)
      rw [List.getElem?_eq_getElem hi, hic] at h1
      cases h1
      exact ⟨i, by omega, h2⟩
    have hcl : ∀ c ∈ els, c.length = P.cellsOf e := fun c hc => by obtain ⟨i, _, h⟩ := hall c hc; exact (mapM_cells h).1
    have hflat : els.flatten.length = len * P.cellsOf e := by
      have : ∀ (l : List (List Value)), (∀ c ∈ l, c.length = P.cellsOf e) → l.flatten.length = l.length * P.cellsOf e := by
        intro l; induction l with
        | nil => simp
        | cons c l ih => intro h; rw [List.flatten_cons, List.length_append, ih (fun c hc => h c (by simp [hc])), h c (by simp), List.length_cons, Nat.add_mul]; omega
      rw [this els hcl, hlen2]
    refine ⟨.slice (some a) len cap, els, rfl, hcl, ⟨by rw [hflat, hlen2], some a, cap, by rw [hlen2], by omega, hm, (fun h => by cases h), fun a' ha hn => ?_⟩, ?_, fun c hc => ?_⟩
    · obtain rfl : a = a' := by injection ha
      obtain ⟨c0, h1, h2⟩ := hels 0 (by omega)
      obtain ⟨hc0, hcell⟩ := mapM_cells h2
      have h00 : 0 < c0.length := by rw [hc0]; exact hz
      have hcc := hcell 0 _ (List.getElem?_eq_getElem h00)
      have e0 : (a.add (0 * P.cellsOf e)).add 0 = a := by simp [Addr.add]
      rw [e0] at hcc
      have hsp2 := World.cell?_spot hcc
      obtain ⟨b, o, s⟩ := a
      simp only at hsp2
      subst hsp2
      refine ⟨b, o, rfl, fun h => h, World.block_lt_of_cell? W _ hcc, fun j u hj => ?_⟩
      obtain ⟨c, h3, h4⟩ := flat_at hcl hz j u hj
      have hjl : j / P.cellsOf e < len := by have := (List.getElem?_eq_some_iff.1 h3).1; omega
      obtain ⟨c', h5, h6⟩ := hels _ hjl
      rw [h3] at h5; cases h5
      have := (mapM_cells h6).2 _ _ h4
      rw [Addr.add_lit, Addr.add_lit] at this
      rwa [Nat.add_assoc, Nat.div_add_mod' j (P.cellsOf e)] at this
    · have h1 := hw ((elems.map (·.1)).length + (rest.map (·.1)).length |> (· * P.bytesOf e)) (by simp [DataW.weights, hu])
      rw [hlen2]
      refine Nat.le_trans (Nat.mul_le_mul_right _ ?_) h1
      simp; omega
    · obtain ⟨i, hi, h1⟩ := hall c hc
      obtain ⟨c', d', ps', h2, h3, h4⟩ := hget i hi
      rw [h1] at h2; cases h2
      refine ⟨n, d', ps', h4, fun m hm => hw m ?_⟩
      simp only [DataW.weights, hu, List.mem_cons, List.mem_append]
      exact .inr (.inl (weightsAll_mem (List.mem_map.2 ⟨(d', ps'), List.mem_of_getElem? h3, rfl⟩) hm))

/-- A struct's field. -/
theorem Reads.field {t : TypeId} {fs : Array Field} {cs : List Value} (h : Reads enc P W t cs) (hu : P.underlying t = some (.struct fs)) :
    cs.length = P.cellsOf t ∧ ∀ (i : Nat) (f : Field), fs[i]? = some f → Reads enc P W f.type ((cs.drop f.offset).take (P.cellsOf f.type)) := by
  obtain ⟨fuel, d, ps, h, hw⟩ := h
  obtain ⟨xs, n, rfl, hx, hl, hxl, hf⟩ := DataW.trod_struct hu h
  obtain ⟨rfl, rfl⟩ := Prod.mk.inj hx
  refine ⟨hl, fun i f hi => ?_⟩
  have h1 := hf i f hi
  have hix : i < xs.length := by have := (Array.getElem?_eq_some_iff.1 hi).1; omega
  rw [List.getElem?_eq_getElem hix] at h1
  refine ⟨n, xs[i].1, xs[i].2, h1, fun m hm => hw m ?_⟩
  simp only [DataW.weights, hu]
  exact DataW.weights_mem_each (j := i) (by simp [hi]) (by simp [List.getElem?_eq_getElem hix]) m hm
/-- A whole number. -/
theorem Reads.int {t : TypeId} {k : IntKind} {cs : List Value} (h : Reads enc P W t cs) (hu : P.underlying t = some (.int k)) : ∃ n, cs = [.int k n] ∧ (Lit.int k n).wf = true := by
  obtain ⟨fuel, d, ps, h, hw⟩ := h
  obtain ⟨n, rfl, -, hn⟩ := DataW.trod_int hu h
  exact ⟨n, rfl, hn⟩
/-- An argument. -/
theorem Reads.of_arg {t : TypeId} {v : Value} {d : DataW H} {ps : List MemPlace} (h : DataW.Trod enc P W 0 (fun _ => true) true t v d ps) (hv : v.cells.toList = [v]) {ts : List TypeId} {ds : List (DataW H)} (hsz : (DataW.weightsEach P ts ds).all (· ≤ reachBytes) = true) {j : Nat} (ht : ts[j]? = some t) (hd : ds[j]? = some d) : Reads enc P W t [v] := by
  obtain ⟨fuel, hf⟩ := h
  rw [hv] at hf
  exact ⟨fuel, d, ps, hf, fun m hm => by have := List.all_eq_true.1 hsz m (DataW.weights_mem_each ht hd m hm); simpa using this⟩
end
theorem flat_get {els : List (List Value)} {sz : Nat} (h : ∀ c ∈ els, c.length = sz) {j i : Nat} (hj : j < els.length) (hi : i < sz) : els.flatten[j * sz + i]? = (els[j])[i]? := by
  induction els generalizing j with
  | nil => simp at hj
  | cons c els ih =>
    have hc := h c (by simp)
    rw [List.flatten_cons]
    cases j with
    | zero => rw [List.getElem?_append_left (by omega)]; simp
    | succ j =>
      rw [List.getElem?_append_right (by rw [hc, Nat.add_mul]; omega), show (j + 1) * sz + i - c.length = j * sz + i from by rw [hc, Nat.add_mul]; omega]
      exact ih (fun c hc => h c (by simp [hc])) (by simpa using hj)
theorem exists_map {α β : Type} (f : β → α) : ∀ (l : List α), (∀ c ∈ l, ∃ x, c = f x) → ∃ m : List β, l = m.map f
  | [], _ => ⟨[], rfl⟩
  | c :: l, h => by
    obtain ⟨x, rfl⟩ := h c (by simp)
    obtain ⟨m, rfl⟩ := exists_map f l (fun c hc => h c (by simp [hc]))
    exact ⟨x :: m, rfl⟩
theorem wanted_go {c : Bool} {t e : Prop} (hc : c = true) (h : t) : if c = true then t else e := by rw [if_pos hc]; exact h
/-- From here on, whatever is written behind. -/
def Ev (C : World → Prop) (W : World) : Prop := ∀ W', Below W.heap.size W W' → C W'
theorem Ev.go {C : World → Prop} {W W' : World} (h : Ev C W) (b : Below W.heap.size W W') : C W' ∧ Ev C W' := ⟨h _ b, fun W2 h2 => h _ (b.trans (h2.mono b.size))⟩
theorem Ev.both {C D : World → Prop} {W W' : World} (h : Ev (fun W => C W ∧ D W) W) (b : Below W.heap.size W W') : C W' ∧ Ev (fun W => C W ∧ D W) W' := ⟨(h.go b).1.1, (h.go b).2⟩
/-! ### rows of the call's own -/
section
variable {w w' : World} {e : TypeId} {sz n : Nat} {v : Value} {xs : List Value}
/-- A row of the call's own, read. -/
theorem own_row (h : w.ownsRow 0 e sz v n xs) {S : Nat → Prop} (hS : ∀ b, v.ownBlock = some b → ¬ S b) : Row w S sz v n xs := by
  obtain ⟨hl, ⟨rfl, rfl⟩ | ⟨g, cap, cur, rfl, hg, hh, hcap, hmax, hsz, ht⟩⟩ := id h
  · exact ⟨hl, none, 0, rfl, Nat.le_refl _, by decide, fun _ => rfl, fun a h => by cases h⟩
  · refine ⟨hl, some ⟨g, 0, none⟩, cap, rfl, hcap, hmax, (fun h => by cases h), fun a ha hn => ?_⟩
    obtain rfl : (⟨g, 0, none⟩ : Addr) = a := by injection ha
    refine ⟨g, 0, rfl, hS g rfl, (Array.getElem?_eq_some_iff.1 hh).1, fun j u hj => ?_⟩
    have := h.cells (g := g) rfl j u hj
    rwa [Addr.add_lit] at this
theorem own_lt (h : w.ownsRow 0 e sz v n xs) : ∀ b, v.ownBlock = some b → b < w.heap.size := fun b hb => (h.lt b hb).2
theorem own_old (h : w.ownsRow 0 e sz v n xs) : Row w (fun b => w.heap.size ≤ b) sz v n xs := own_row h (fun b hb h2 => by have := own_lt h b hb; omega)
theorem own_slice (h : w.ownsRow 0 e sz v n xs) : ∃ A c, v = .slice A n c ∧ n ≤ c ∧ c ≤ 9223372036854775807 := by
  obtain ⟨_, ⟨rfl, rfl⟩ | ⟨g, cap, cur, rfl, hg, hh, hcap, hmax, _⟩⟩ := h
  · exact ⟨none, 0, rfl, Nat.le_refl _, by decide⟩
  · exact ⟨_, _, rfl, hcap, by unfold maxLen at hmax; omega⟩
theorem own_nil (w : World) (e : TypeId) (sz : Nat) : w.ownsRow 0 e sz (.slice none 0 0) 0 [] := World.ownsRow_nil _ _ _ _
theorem own_empty (w : World) (e : TypeId) (sz : Nat) : (w.alloc (.cells #[] e)).ownsRow 0 e sz (.slice (some ⟨w.heap.size, 0, none⟩) 0 0) 0 [] := World.ownsRow_made w #[] 0 (Nat.zero_le _) (by decide) (by simp)
theorem own_below {B : Nat} (h : w.ownsRow 0 e sz v n xs) (hb : Below B w w') (hlt : ∀ b, v.ownBlock = some b → b < B) : w'.ownsRow 0 e sz v n xs :=
  own_fr h (Fr.ofB hb) (fun b hv hB => by have := hlt b hv; omega)
theorem own_drewN (h : w.ownsRow 0 e sz v n xs) (k : Nat) : (w.drewN k).ownsRow 0 e sz v n xs := own_fr h ((Fr.refl (fun _ => False) w).drewN k) (fun _ _ h => h)
/-- A literal. -/
theorem own_lit (w : World) (e : TypeId) (sz n : Nat) (xs : List Value) (hl : xs.length = n * sz) (hn : n ≤ 140737488355328) : (w.alloc (.cells xs.toArray e)).ownsRow 0 e sz (.slice (some ⟨w.heap.size, 0, none⟩) n n) n xs :=
  ⟨hl, .inr ⟨w.heap.size, n, xs.toArray, rfl, Nat.zero_le _, heap_alloc_new w _, Nat.le_refl _, by unfold maxLen; omega, by simpa using hl, by simp [List.take_of_length_le, hl]⟩⟩
/-- Where the cells of one's own row lie; a cell is written. -/
theorem own_at {A : Option Addr} {m c : Nat} (h : w.ownsRow 0 e sz (.slice A m c) n xs) (hn : 0 < n) : ∃ k, A = some ⟨k, 0, none⟩ ∧ m = n ∧ k < w.heap.size ∧ (∀ j u, xs[j]? = some u → w.cell? ⟨k, j, none⟩ = some u) ∧ (∀ j, w.frozen? ⟨k, j, none⟩ = false) ∧
    ∀ i y, i < n * sz → (w.setCell ⟨k, i, none⟩ y).ownsRow 0 e sz (.slice (some ⟨k, 0, none⟩) n c) n (xs.set i y) := by
  obtain ⟨hl, ⟨hv, h0⟩ | ⟨g, cap, cur, hv, hb, hh, hcap, hmax, hsz, ht⟩⟩ := id h
  · omega
  · injection hv with e1 e2 e3
    subst e1 e2 e3
    refine ⟨g, rfl, rfl, (Array.getElem?_eq_some_iff.1 hh).1, fun j u hj => ?_, fun j => row_free hh, fun i y hi => ⟨by simpa using hl, .inr ⟨g, c, cur.setIfInBounds i y, rfl, hb, row_set hh _ rfl, hcap, hmax, by simp [hsz], ?_⟩⟩⟩
    · have := h.cells (g := g) rfl j u hj
      rwa [Addr.add_lit, Nat.zero_add] at this
    · rw [Array.toList_setIfInBounds, List.take_set, ht]
end
section
variable {P : Program} {w : World} {o : Oper} {a : Act} {K : Act → World → Prop} {Q : Exit → Act → World → Prop} {e : TypeId} {z : Value} {sz bytes n m : Nat} {v : Value} {xs news : List Value}
/-- What was read is appended to one's own row. -/
theorem wp_appR (s x : Operand) (t : TypeId) (ho : o.op = .call { callee := .builtin .append, args := #[s, x], argTypes := #[t, t] })
    (ht : P.underlying t = some (.slice e)) (hinfo : (P.info? e).map (fun i => (i.zero, i.size, i.bytes)) = some (some z, sz, bytes)) (hzs : z.cells.size = sz) (hsz : 0 < sz) (hb0 : 0 < bytes)
    {xv : Value} (hs : a.eval s = v) (hown : w.ownsRow 0 e sz v n xs) {S : Nat → Prop} (hx : a.eval x = xv) (hb : Row w S sz xv m news) (h1 : ∀ u ∈ news, u.oneCell' = true) (hl : (n + m) * bytes ≤ 140737488355328)
    (h : ∀ v' w', w'.ownsRow 0 e sz v' (n + m) (xs ++ news) → Nx w v v' → FrV v w w' → K (a.put o.dst v') w') : Oper.wp P o a w K Q := by
  obtain ⟨h0, A, c, rfl, q1, q2, q3, q5⟩ := hb
  refine wp_app w s x t ho e z sz bytes ht hinfo hzs hsz v n xs hs hown A m c news hx h0 (fun hA => by have := q3 hA; omega) (fun ad hA j u hj => ?_) h1 hl hb0 h
  have hm : 0 < m := by
    rcases Nat.eq_zero_or_pos m with rfl | hm
    · have := (List.getElem?_eq_some_iff.1 hj).1; omega
    · exact hm
  obtain ⟨b, o2, rfl, -, -, p4⟩ := q5 ad hA hm
  rw [Addr.add_lit]; exact p4 j u hj
/-- One element, just laid, is appended to one's own row. -/
theorem wp_app1 (s x : Operand) (t : TypeId) (ho : o.op = .call { callee := .builtin .append, args := #[s, x], argTypes := #[t, t] })
    (ht : P.underlying t = some (.slice e)) (hinfo : (P.info? e).map (fun i => (i.zero, i.size, i.bytes)) = some (some z, sz, bytes)) (hzs : z.cells.size = sz) (hsz : 0 < sz) (hb0 : 0 < bytes)
    (us : List Value) (hus : us.length = sz) (h1 : ∀ u ∈ us, u.oneCell' = true) {ty : TypeId}
    (hs : a.eval s = v) (hown : w.ownsRow 0 e sz v n xs) (hx : a.eval x = .slice (some ⟨w.heap.size, 0, none⟩) 1 1) (hl : (n + 1) * bytes ≤ 140737488355328)
    (h : ∀ v' w', w'.ownsRow 0 e sz v' (n + 1) (xs ++ us) → Nx w v v' → FrV v w w' → K (a.put o.dst v') w') : Oper.wp P o a (w.alloc (.cells us.toArray ty)) K Q := by
  have hal : Fr (fun _ => False) w (w.alloc (.cells us.toArray ty)) := (Fr.refl _ w).alloc _
  refine wp_app _ s x t ho e z sz bytes ht hinfo hzs hsz v n xs hs (own_fr hown hal (fun _ _ h => h)) (some ⟨w.heap.size, 0, none⟩) 1 1 us hx (by omega) (fun h => by cases h) (new_cells w us ty) h1 hl hb0 (fun v' w' h1' h2 h3 => h v' w' h1' ?_ ?_)
  · rcases h2 with h2 | ⟨b, h2, hb⟩
    · exact .inl h2
    · exact .inr ⟨b, h2, Nat.le_trans hal.size hb⟩
  · exact Fr.trans (S := fun b => v.ownBlock = some b) ((Fr.refl _ w).alloc _) h3 (fun b hb => .inl hb)
/-- A copy: append([]T{}, x...). -/
theorem wp_clone (s x : Operand) (t : TypeId) (ho : o.op = .call { callee := .builtin .append, args := #[s, x], argTypes := #[t, t] })
    (ht : P.underlying t = some (.slice e)) (hinfo : (P.info? e).map (fun i => (i.zero, i.size, i.bytes)) = some (some z, sz, bytes)) (hzs : z.cells.size = sz) (hsz : 0 < sz) (hb0 : 0 < bytes)
    {xv : Value} (hs : a.eval s = .slice (some ⟨w.heap.size, 0, none⟩) 0 0) {S : Nat → Prop} (hx : a.eval x = xv) (hb : Row w S sz xv m news) (h1 : ∀ u ∈ news, u.oneCell' = true) (hl : m * bytes ≤ 140737488355328)
    (h : ∀ v' w', w'.ownsRow 0 e sz v' m news → Lo w.heap.size v' → Below w.heap.size w w' → K (a.put o.dst v') w') : Oper.wp P o a (w.alloc (.cells #[] e)) K Q := by
  have hal : Fr (fun _ => False) w (w.alloc (.cells #[] e)) := (Fr.refl _ w).alloc _
  have hbl : Below w.heap.size w (w.alloc (.cells #[] e)) := (Below.refl _ _).alloc (Nat.le_refl _) _
  have hlo : Lo w.heap.size (.slice (some ⟨w.heap.size, 0, none⟩) 0 0) := fun b hb => Nat.le_of_eq (Option.some.inj hb)
  refine wp_appR s x t ho ht hinfo hzs hsz hb0 hs (own_empty w e sz) hx (hb.fr hal (fun _ _ h => h.elim)) h1 (by rw [Nat.zero_add]; exact hl) (fun v' w' h1 h2 h3 => h v' w' ?_ (hlo.next h2 hal.size) (hbl.trans (h3.belowB hlo hal.size)))
  rw [Nat.zero_add, List.nil_append] at h1; exact h1
end
section
variable {P : Program} {w : World} {ops : Array Oper} {rest : List Oper} {o : Oper} {a : Act} {Q : Exit → Act → World → Prop} {e : TypeId} {z : Value} {sz bytes n m : Nat} {v : Value} {xs news : List Value}
theorem wpList_appR (hgd : o.guard = none) (s x : Operand) (t : TypeId) (ho : o.op = .call { callee := .builtin .append, args := #[s, x], argTypes := #[t, t] })
    (ht : P.underlying t = some (.slice e)) (hinfo : (P.info? e).map (fun i => (i.zero, i.size, i.bytes)) = some (some z, sz, bytes)) (hzs : z.cells.size = sz) (hsz : 0 < sz) (hb0 : 0 < bytes)
    {xv : Value} (hs : a.eval s = v) (hown : w.ownsRow 0 e sz v n xs) {S : Nat → Prop} (hx : a.eval x = xv) (hb : Row w S sz xv m news) (h1 : ∀ u ∈ news, u.oneCell' = true) (hl : (n + m) * bytes ≤ 140737488355328)
    (h : ∀ v' w', w'.ownsRow 0 e sz v' (n + m) (xs ++ news) → Nx w v v' → FrV v w w' → wpList P ops Q rest (a.put o.dst v') w') : wpList P ops Q (o :: rest) a w :=
  wpList_of_wp hgd fun _ hK => wp_appR s x t ho ht hinfo hzs hsz hb0 hs hown hx hb h1 hl (fun v' w' h1 h2 h3 => hK _ _ (h v' w' h1 h2 h3))
theorem wpList_app1 (hgd : o.guard = none) (s x : Operand) (t : TypeId) (ho : o.op = .call { callee := .builtin .append, args := #[s, x], argTypes := #[t, t] })
    (ht : P.underlying t = some (.slice e)) (hinfo : (P.info? e).map (fun i => (i.zero, i.size, i.bytes)) = some (some z, sz, bytes)) (hzs : z.cells.size = sz) (hsz : 0 < sz) (hb0 : 0 < bytes)
    (us : List Value) (hus : us.length = sz) (h1 : ∀ u ∈ us, u.oneCell' = true) {ty : TypeId}
    (hs : a.eval s = v) (hown : w.ownsRow 0 e sz v n xs) (hx : a.eval x = .slice (some ⟨w.heap.size, 0, none⟩) 1 1) (hl : (n + 1) * bytes ≤ 140737488355328)
    (h : ∀ v' w', w'.ownsRow 0 e sz v' (n + 1) (xs ++ us) → Nx w v v' → FrV v w w' → wpList P ops Q rest (a.put o.dst v') w') : wpList P ops Q (o :: rest) a (w.alloc (.cells us.toArray ty)) :=
  wpList_of_wp hgd fun _ hK => wp_app1 s x t ho ht hinfo hzs hsz hb0 us hus h1 hs hown hx hl (fun v' w' h1 h2 h3 => hK _ _ (h v' w' h1 h2 h3))
theorem wpList_clone (hgd : o.guard = none) (s x : Operand) (t : TypeId) (ho : o.op = .call { callee := .builtin .append, args := #[s, x], argTypes := #[t, t] })
    (ht : P.underlying t = some (.slice e)) (hinfo : (P.info? e).map (fun i => (i.zero, i.size, i.bytes)) = some (some z, sz, bytes)) (hzs : z.cells.size = sz) (hsz : 0 < sz) (hb0 : 0 < bytes)
    {xv : Value} (hs : a.eval s = .slice (some ⟨w.heap.size, 0, none⟩) 0 0) {S : Nat → Prop} (hx : a.eval x = xv) (hb : Row w S sz xv m news) (h1 : ∀ u ∈ news, u.oneCell' = true) (hl : m * bytes ≤ 140737488355328)
    (h : ∀ v' w', w'.ownsRow 0 e sz v' m news → Lo w.heap.size v' → Below w.heap.size w w' → wpList P ops Q rest (a.put o.dst v') w') : wpList P ops Q (o :: rest) a (w.alloc (.cells #[] e)) :=
  wpList_of_wp hgd fun _ hK => wp_clone s x t ho ht hinfo hzs hsz hb0 hs hx hb h1 hl (fun v' w' h1 h2 h3 => hK _ _ (h v' w' h1 h2 h3))
end
theorem nums_append (k : IntKind) (l m : List Int) : nums k l ++ nums k m = nums k (l ++ m) := by simp [nums]
theorem nums_one (k : IntKind) (l : List Int) : ∀ u ∈ nums k l, u.oneCell' = true := by intro u hu; obtain ⟨x, _, rfl⟩ := List.mem_map.1 hu; rfl
/-- A literal row, read. -/
theorem Row.lit (w : World) (vs : List Value) (ty : TypeId) (sz n : Nat) (hl : vs.length = n * sz) (hm : n ≤ 1000) : Row (w.alloc (.cells vs.toArray ty)) (fun b => b < w.heap.size) sz (.slice (some ⟨w.heap.size, 0, none⟩) n n) n vs := by
  refine ⟨hl, _, _, rfl, Nat.le_refl _, by unfold maxLen; omega, (fun h => by cases h), fun a ha _ => ?_⟩
  obtain rfl : (⟨w.heap.size, 0, none⟩ : Addr) = a := by injection ha
  refine ⟨_, _, rfl, Nat.lt_irrefl _, by simp, fun j u hj => ?_⟩
  have := new_cells w vs ty _ rfl j u hj
  rwa [Addr.add_lit] at this
/-- A beginning of a row. -/
theorem Row.take {w : World} {S : Nat → Prop} {sz n c : Nat} {A : Option Addr} {xs : List Value} (h : Row w S sz (.slice A n c) n xs) {j : Nat} (hj : j ≤ n) : Row w S sz (.slice A j c) j (xs.take (j * sz)) := by
  obtain ⟨h0, A', c', hv, h1, h2, h3, h5⟩ := h
  injection hv with e1 e2 e3
  subst e1 e3
  have hm : j * sz ≤ n * sz := Nat.mul_le_mul_right _ hj
  refine ⟨by simp; omega, A, c, rfl, by omega, h2, h3, fun a ha hn => ?_⟩
  obtain ⟨b, o, p1, p2, p3, p4⟩ := h5 a ha (by omega)
  refine ⟨b, o, p1, p2, p3, fun k u hk => p4 k u ?_⟩
  rw [List.getElem?_take] at hk
  split at hk
  · exact hk
  · cases hk
theorem Row.cells {w : World} {S : Nat → Prop} {sz n c b o : Nat} {xs : List Value} (h : Row w S sz (.slice (some ⟨b, o, none⟩) n c) n xs) {j : Nat} {u : Value} (hj : xs[j]? = some u) : w.cell? ⟨b, o + j, none⟩ = some u := by
  have hn : 0 < n := by
    rcases Nat.eq_zero_or_pos n with rfl | hn
    · have := h.1; have := (List.getElem?_eq_some_iff.1 hj).1; omega
    · exact hn
  obtain ⟨b', o', e, -, -, hc⟩ := h.at_ hn
  cases e
  exact hc j u hj
/-- The length of a slice value. -/
def vlen : Value → Nat | .slice _ n _ => n | _ => 0
theorem Fr.belowS {S : Nat → Prop} {w w' : World} (h : Fr S w w') {B : Nat} (hs : ∀ b, S b → B ≤ b) (hB : B ≤ w.heap.size) : Below B w w' :=
  ⟨h.os, h.tape, h.output, h.size, fun k hk => h.block k (Nat.lt_of_lt_of_le hk hB) (fun hb => by have := hs k hb; omega)⟩
/-! ### a region that only reads, its list behind a name: elaboration then does not unfold the operations that are skipped -/
theorem wpQuiet_hide {P : Program} {ops : Array Oper} {C : World → Prop} {Q : Act → Prop} {a : Act} {l0 : List Oper} (h : ∀ l : List Oper, Hid (l = l0) → wpQuiet P ops C Q l a) : wpQuiet P ops C Q l0 a := h l0 (Lib.hid rfl)
theorem wpQuiet_step_h {P : Program} {ops : Array Oper} {C : World → Prop} {Q : Act → Prop} {a : Act} {l rest : List Oper} {o : Oper} (hl : Hid (l = o :: rest))
    (h : ∀ (K : Act → Prop) (r : List Oper), Hid (r = rest) → (∀ a, wpQuiet P ops C Q r a → K a) → if Region.wanted o (yielded ops a.tmps) then o.quiet P a C K else K (a.put o.dst undef)) : wpQuiet P ops C Q l a := by
  rw [hl.out]
  exact wpQuiet_step (fun K hK => h K rest (Lib.hid rfl) hK)
theorem wpQuiet_nil_h {P : Program} {ops : Array Oper} {C : World → Prop} {Q : Act → Prop} {a : Act} {l : List Oper} (hl : Hid (l = [])) (h : Q a) : wpQuiet P ops C Q l a := by
  rw [hl.out]; exact h
/-- A region of open order, every operation quiet in the class C. -/
theorem wp_region_C {P : Program} {C : World → Prop} {id : Nat} {Q : Exit → Act → World → Prop} {a : Act} {w : World} {l : List Oper} (hm : P.follows .mixedOrders = true) (hB : Region.lexB .any l.toArray = true) (hC : C w.drew)
    (h : wpQuiet P l.toArray C (fun a' => ∀ w', C w' → Q .normal a' w') l a) : (Code.region id l.toArray true).wp P Q a w :=
  wp_region_quiet (C := C) hm hB hC (by simpa using h)
end Go.Proofs.YtnljjlaececnkaaGreatDoor
