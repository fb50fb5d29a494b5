/-
  Merged texts (A, B, P, C, D, E, F, G), part 1 of 12. Conditions: each part's own, told at its head.
-/
import Derived.Test.YtnljjlaececnkaaGreatDoorRows
import Derived.WalkKit
import Derived.WalkSpells
import Derived.WalkLawsBesides
import Derived.Deep.QuietTactic
import Derived.BigQuiet
import Derived.StillTailTactics
import Derived.Deep.RegionHeld3
import Derived.Deep.RegionWith
import Derived.Deep.DeepCutAuto
import Derived.Deep.DeepFit
import Derived.Deep.CutBlock
import Derived.Deep.OwnRows
import Derived.Lib.Hide
import Derived.LaidEqlPtr
import Derived.Maps.AppendAt
import Derived.ProofKit
import Derived.OpenShut
import Derived.SizedLaws
import Derived.Deep.MidRow
import Derived.Deep.WholeRow
import Derived.Lib.Small
import Derived.DeepKeys
import Derived.Laws.BytesArg
import Derived.Lib.BufferWrite
/-
  Frames and rows: the words that the contracts of this seat use. No condition.
-/
namespace Go.Proofs.YtnljjlaececnkaaGreatDoor
open Go.ChangeShapes Go.WideShapes Go.ChangeAt Go.RowKit
set_option linter.unusedVariables false
set_option linter.unusedSimpArgs false
/-- But for the blocks of S, what was there is as it was; the streams too. -/
structure Fr (S : Nat → Prop) (w w' : World) : Prop where
  os : w'.os = w.os
  tape : w'.tape = w.tape
  output : w'.output = w.output
  size : w.heap.size ≤ w'.heap.size
  block : ∀ k, k < w.heap.size → ¬ S k → w'.heap[k]? = w.heap[k]?
namespace Fr
variable {S S' : Nat → Prop} {w w' w2 : World}
theorem refl (S : Nat → Prop) (w : World) : Fr S w w := ⟨rfl, rfl, rfl, Nat.le_refl _, fun _ _ _ => rfl⟩
theorem trans (h : Fr S w w') (k : Fr S' w' w2) (hs : ∀ b, S' b → S b ∨ w.heap.size ≤ b) : Fr S w w2 :=
  ⟨k.os.trans h.os, k.tape.trans h.tape, k.output.trans h.output, Nat.le_trans h.size k.size,
   fun b hb hn => (k.block b (Nat.lt_of_lt_of_le hb h.size) (fun h2 => (hs b h2).elim hn (fun h3 => by omega))).trans (h.block b hb hn)⟩
theorem mono (h : Fr S w w') (hs : ∀ b, S b → S' b) : Fr S' w w' := ⟨h.os, h.tape, h.output, h.size, fun b hb hn => h.block b hb (fun h2 => hn (hs b h2))⟩
theorem of_below (h : Below w.heap.size w w') : Fr S w w' := ⟨h.os, h.tape, h.output, h.size, fun b hb _ => h.block b hb⟩
theorem below (h : Fr S w w') (hs : ∀ b, S b → w.heap.size ≤ b) : Below w.heap.size w w' := ⟨h.os, h.tape, h.output, h.size, fun b hb => h.block b hb (fun h2 => by have := hs b h2; omega)⟩
theorem alloc (h : Fr S w w') (o : Obj) : Fr S w (w'.alloc o) :=
  h.trans (S' := fun _ => False) ⟨rfl, rfl, rfl, by simp, fun b hb _ => Below.heap_alloc _ _ _ hb⟩ (fun _ h => h.elim)
theorem drew (h : Fr S w w') : Fr S w w'.drew := ⟨h.os, h.tape, h.output, h.size, h.block⟩
theorem drewN (h : Fr S w w') (n : Nat) : Fr S w (w'.drewN n) := ⟨h.os, h.tape, h.output, h.size, h.block⟩
theorem setCell (h : Fr S w w') {p : Addr} (hp : S p.block ∨ w.heap.size ≤ p.block) (u : Value) : Fr S w (w'.setCell p u) :=
  h.trans (S' := fun b => b = p.block) ⟨rfl, rfl, rfl, by simp [World.setCell], fun b _ hn => Below.heap_setCell _ _ _ _ hn⟩ (fun b hb => hb ▸ hp)
theorem grown (h : Fr S w w') {row : Option Nat} (hg : w'.grownBy w2 row) (hr : ∀ b, row = some b → S b ∨ w.heap.size ≤ b) : Fr S w w2 :=
  h.trans (S' := fun b => row = some b) ⟨hg.os, hg.tape, hg.output, hg.size, fun b hb hn => hg.block b hb (fun e => hn e.symm)⟩ hr
theorem cell (h : Fr S w w') {a : Addr} {v : Value} (hc : w.cell? a = some v) (hn : ¬ S a.block) : w'.cell? a = some v :=
  (World.cell?_of_block (w := w) (h.block a.block (World.block_lt_of_cell? w a hc) hn)).trans hc
theorem obj (h : Fr S w w') {g : Nat} {o : Obj} (hb : w.heap[g]? = some o) (hn : ¬ S g) : w'.heap[g]? = some o :=
  (h.block g (Array.getElem?_eq_some_iff.1 hb).1 hn).trans hb
end Fr
section
variable {P : Program}
/-- Appending what is nil: nothing turns. -/
theorem run_append_nil (w : World) (t ty e : TypeId) (i : TypeInfo) (ht : P.underlying t = some (.slice e)) (hi : P.info? e = some i) (A : Option Addr) (n c c' : Nat) (hc : n ≤ c) :
    (Builtin.append_ #[t, t] ty #[.slice A n c, .slice none 0 c']).run P w = .ok (.slice A n c) w := by
  cases A with
  | none => simp [Builtin.append_, run_underlying ht, sizeOf, typeInfo, hi, Builtin.lenOf, hc, Builtin.firstCells]
  | some a => simp [Builtin.append_, run_underlying ht, sizeOf, typeInfo, hi, Builtin.lenOf, hc, Builtin.firstCells, storeCells]
/-- v' lies where v lay, or is new. -/
def Nx (w : World) (v v' : Value) : Prop := v'.ownBlock = v.ownBlock ∨ ∃ k, v'.ownBlock = some k ∧ w.heap.size ≤ k
theorem Nx.refl (w : World) (v : Value) : Nx w v v := .inl rfl
theorem Nx.trans {w w1 : World} {v v1 v2 : Value} (h : Nx w v v1) (k : Nx w1 v1 v2) (hs : w.heap.size ≤ w1.heap.size) : Nx w v v2 := by
  rcases k with k | ⟨b, k, hb⟩
  · rcases h with h | ⟨b, h, hb⟩
    · exact .inl (k.trans h)
    · exact .inr ⟨b, k.trans h, hb⟩
  · exact .inr ⟨b, k, Nat.le_trans hs hb⟩
/-- The frame of what may write v's own row. -/
abbrev FrV (v : Value) (w w' : World) : Prop := Fr (fun b => v.ownBlock = some b) w w'
theorem FrV.step {v v1 : Value} {w w1 w2 : World} (h : FrV v w w1) (hn : Nx w v v1) (k : FrV v1 w1 w2) : FrV v w w2 :=
  Fr.trans h k (fun b hb => by
    rcases hn with hn | ⟨c, hn, hc⟩
    · exact .inl (hn ▸ hb)
    · rw [hn] at hb; cases hb; exact .inr hc)
/-- An append to a row of the call's own, of a slice whatever it is. -/
theorem wp_app (w : World) {o : Oper} {a : Act} {K : Act → World → Prop} {Q : Exit → Act → World → Prop} (s x : Operand) (t : TypeId)
    (ho : o.op = .call { callee := .builtin .append, args := #[s, x], argTypes := #[t, t] })
    (e : TypeId) (z : Value) (size bytes : Nat) (ht : P.underlying t = some (.slice e)) (hinfo : (P.info? e).map (fun i => (i.zero, i.size, i.bytes)) = some (some z, size, bytes))
    (hzs : z.cells.size = size) (hsz : 0 < size)
    (v : Value) (n : Nat) (xs : List Value) (hs : a.eval s = v) (hown : w.ownsRow 0 e size v n xs)
    (A : Option Addr) (m c : Nat) (news : List Value) (hx : a.eval x = .slice A m c) (hl : news.length = m * size) (hA : A = none → m = 0) (hnews : ∀ ad, A = some ad → ∀ j u, news[j]? = some u → w.cell? (ad.add j) = some u) (h1 : ∀ u ∈ news, u.oneCell' = true)
    (hbytes : (n + m) * bytes ≤ 140737488355328) (hb0 : 0 < bytes)
    (h : ∀ v' w', w'.ownsRow 0 e size v' (n + m) (xs ++ news) → Nx w v v' → FrV v w w' → K (a.put o.dst v') w') : Oper.wp P o a w K Q := by
  obtain ⟨i, hi, hz0, hz1, hz2⟩ := info_parts hinfo
  have h63 : n + m ≤ maxLen := by
    have : n + m ≤ (n + m) * bytes := Nat.le_mul_of_pos_right _ hb0
    unfold maxLen; omega
  cases A with
  | some ad =>
    obtain ⟨v', w', hr, h2, h3, _, h5⟩ := run_append_own_at (P := P) w 0 t o.type e i z size bytes ht hi hz0 hz1 hz2 hzs hsz v n xs hown ad m c news hl (hnews ad rfl) h1 h63 hbytes (Nat.zero_le _)
    unfold Oper.wp execOp
    simp only [ho, resolve, invoke, builtin, Sem.run_bind, Sem.run_pure, Result.andThen_ok, List.map_toArray, List.map_cons, List.map_nil, hs, hx, hr]
    refine h v' w' h2 ?_ ((Fr.refl _ w).grown h3 (fun b hb => .inl hb))
    rcases h5 with h5 | h5
    · exact .inl h5
    · exact .inr ⟨_, h5, Nat.le_refl _⟩
  | none =>
    obtain rfl := hA rfl
    obtain rfl : news = [] := List.eq_nil_of_length_eq_zero (by simpa using hl)
    have hv : ∃ A c0, v = .slice A n c0 ∧ n ≤ c0 := by
      obtain ⟨_, ⟨rfl, rfl⟩ | ⟨g, cap, cur, rfl, _, _, hcap, _⟩⟩ := hown
      · exact ⟨_, _, rfl, Nat.le_refl _⟩
      · exact ⟨_, _, rfl, hcap⟩
    obtain ⟨A, c0, rfl, hc0⟩ := hv
    have hr := run_append_nil (P := P) w t o.type e i ht hi A n c0 c hc0
    unfold Oper.wp execOp
    simp only [ho, resolve, invoke, builtin, Sem.run_bind, Sem.run_pure, Result.andThen_ok, List.map_toArray, List.map_cons, List.map_nil, hs, hx, hr]
    exact h _ _ (by simpa using hown) (Nx.refl _ _) (Fr.refl _ w)
/-- .. as a step of a list of operations, and as a step of a region. -/
theorem wpList_of_wp {w : World} {ops : Array Oper} {rest : List Oper} {o : Oper} {a : Act} {Q : Exit → Act → World → Prop} (hgd : o.guard = none)
    (h : ∀ K : Act → World → Prop, (∀ a w, wpList P ops Q rest a w → K a w) → Oper.wp P o a w K Q) : wpList P ops Q (o :: rest) a w :=
  wpList_plain hgd fun K hK => h K hK
end
theorem own_fr {w w' : World} {e size n : Nat} {v : Value} {xs : List Value} (h : w.ownsRow 0 e size v n xs) {S : Nat → Prop} (hf : Fr S w w') (hS : ∀ b, v.ownBlock = some b → ¬ S b) : w'.ownsRow 0 e size v n xs := by
  obtain ⟨h1, h2 | ⟨g, cap, cur, rfl, hg, hh, r⟩⟩ := h
  · exact ⟨h1, .inl h2⟩
  · exact ⟨h1, .inr ⟨g, cap, cur, rfl, hg, hf.obj hh (hS g rfl), r⟩⟩
theorem new_cells (W : World) (us : List Value) (e : TypeId) : ∀ ad, some (⟨W.heap.size, 0, none⟩ : Addr) = some ad → ∀ j u, us[j]? = some u → (W.alloc (.cells us.toArray e)).cell? (ad.add j) = some u := by
  intro ad had j u hj
  obtain rfl : (⟨W.heap.size, 0, none⟩ : Addr) = ad := by injection had
  have : (⟨W.heap.size, 0, none⟩ : Addr).add j = ⟨W.heap.size, j, none⟩ := by unfold Addr.add; split <;> simp_all
  rw [this, cell_of_row _ _ _ _ _ _ (heap_alloc_new W _)]
  simpa using hj
/-- A region that draws its order and reads, but for its forced end: the world behind a variable. -/
theorem wp_region_tail {P : Program} {id : Nat} {Q : Exit → Act → World → Prop} {a : Act} {w : World} {l : List Oper} (n : Nat) (hm : P.follows .mixedOrders = true) (hB : Region.lexTailB .any l.toArray n = true)
    (h : ∀ w2, w2 = w.drew → wpStill P l.toArray w2 (fun a' => wpList P l.toArray Q (l.drop n) a' w2) (l.take n) a) : (Code.region id l.toArray true).wp P Q a w :=
  wp_region_still_tail n hm hB (h _ rfl)
theorem row_cell {w : World} {g i : Nat} {cs : Array Value} {t : TypeId} {f : Nat × Nat} (h : w.heap[g]? = some (.cells cs t f)) : w.cell? ⟨g, i, none⟩ = cs[i]? := cell_of_row w g i cs t f h
theorem row_free {w : World} {g i : Nat} {cs : Array Value} {t : TypeId} (h : w.heap[g]? = some (.cells cs t (0, 0))) : w.frozen? ⟨g, i, none⟩ = false := by simp [World.frozen?, h]
theorem row_set {w : World} {g i : Nat} {cs cs' : Array Value} {t : TypeId} (h : w.heap[g]? = some (.cells cs t (0, 0))) (u : Value) (he : cs.setIfInBounds i u = cs') : (w.setCell ⟨g, i, none⟩ u).heap[g]? = some (.cells cs' t (0, 0)) := by
  simp [World.setCell, Array.getElem?_modify, h, he]
/-- The slice value v has n elements of sz cells each, and these are xs; its block is none of S. -/
def Row (w : World) (S : Nat → Prop) (sz : Nat) (v : Value) (n : Nat) (xs : List Value) : Prop :=
  xs.length = n * sz ∧ ∃ A c, v = .slice A n c ∧ n ≤ c ∧ c ≤ maxLen ∧ (A = none → c = 0) ∧
    ∀ a, A = some a → 0 < n → ∃ b o, a = ⟨b, o, none⟩ ∧ ¬ S b ∧ b < w.heap.size ∧ ∀ j u, xs[j]? = some u → w.cell? ⟨b, o + j, none⟩ = some u
theorem Row.fr {w w' : World} {S S' : Nat → Prop} {sz n : Nat} {v : Value} {xs : List Value} (h : Row w S sz v n xs) (hf : Fr S' w w') (hs : ∀ b, b < w.heap.size → S' b → S b) : Row w' S sz v n xs := by
  obtain ⟨h0, A, c, rfl, h1, h2, h3, h5⟩ := h
  refine ⟨h0, A, c, rfl, h1, h2, h3, fun a ha hn => ?_⟩
  obtain ⟨b, o, p1, p2, p3, p4⟩ := h5 a ha hn
  exact ⟨b, o, p1, p2, Nat.lt_of_lt_of_le p3 hf.size, fun j u hj => hf.cell (p4 j u hj) (fun h => p2 (hs _ p3 h))⟩
theorem Row.mono {w : World} {S S' : Nat → Prop} {sz n : Nat} {v : Value} {xs : List Value} (h : Row w S sz v n xs) (hs : ∀ b, S' b → S b) : Row w S' sz v n xs := by
  obtain ⟨h0, A, c, rfl, h1, h2, h3, h5⟩ := h
  refine ⟨h0, A, c, rfl, h1, h2, h3, fun a ha hn => ?_⟩
  obtain ⟨b, o, p1, p2, p3, p4⟩ := h5 a ha hn
  exact ⟨b, o, p1, fun h => p2 (hs _ h), p3, p4⟩
/-- The head of a slice, and where an element lies. -/
theorem Row.head {w : World} {S : Nat → Prop} {sz n : Nat} {v : Value} {xs : List Value} (h : Row w S sz v n xs) : ∃ A c, v = .slice A n c ∧ n ≤ c ∧ c ≤ 9223372036854775807 := by
  obtain ⟨h0, A, c, rfl, h1, h2, h3, h5⟩ := h
  exact ⟨A, c, rfl, h1, by unfold maxLen at h2; omega⟩
theorem Row.at_ {w : World} {S : Nat → Prop} {sz n c : Nat} {A : Option Addr} {xs : List Value} (h : Row w S sz (.slice A n c) n xs) (hn : 0 < n) :
    ∃ b o, A = some ⟨b, o, none⟩ ∧ ¬ S b ∧ b < w.heap.size ∧ ∀ j u, xs[j]? = some u → w.cell? ⟨b, o + j, none⟩ = some u := by
  obtain ⟨h0, A', c', hv, h1, h2, h3, h5⟩ := h
  injection hv with e1 e2 e3
  subst e1 e3
  cases A with
  | none => have := h3 rfl; omega
  | some a =>
    obtain ⟨b, o, rfl, p2, p3, p4⟩ := h5 a rfl hn
    exact ⟨b, o, rfl, p2, p3, p4⟩
/-- Numbers of a kind. -/
def nums (k : IntKind) (l : List Int) : List Value := l.map (Value.int k)
theorem nums_length (k : IntKind) (l : List Int) : (nums k l).length = l.length := by simp [nums]
section
variable {H : Type} {enc : TypeId × Value → H} {P : Program} {W : World} {base : Nat} {spare : Nat → Bool} {held : Bool} {t e : TypeId} {k : IntKind} {v : Value} {d : DataW H} {ps : List MemPlace}
end
/-- v's own row lies from block B on. -/
def Lo (B : Nat) (v : Value) : Prop := ∀ b, v.ownBlock = some b → B ≤ b
theorem Lo.next {B : Nat} {w : World} {v v' : Value} (h : Lo B v) (hn : Nx w v v') (hB : B ≤ w.heap.size) : Lo B v' := fun b hb => by
  rcases hn with hn | ⟨k, hn, hk⟩
  · exact h b (hn ▸ hb)
  · rw [hn] at hb; cases hb; omega
theorem Lo.mono {B B' : Nat} {v : Value} (h : Lo B v) (hb : B' ≤ B) : Lo B' v := fun b hv => Nat.le_trans hb (h b hv)
theorem Fr.belowB {v : Value} {w w' : World} (h : FrV v w w') {B : Nat} (hl : Lo B v) (hB : B ≤ w.heap.size) : Below B w w' :=
  ⟨h.os, h.tape, h.output, h.size, fun k hk => h.block k (Nat.lt_of_lt_of_le hk hB) (fun hb => by have := hl k hb; omega)⟩
theorem Fr.ofB {B : Nat} {w w' : World} (h : Below B w w') : Fr (fun b => B ≤ b) w w' := ⟨h.os, h.tape, h.output, h.size, fun k _ hn => h.block k (by omega)⟩
theorem Row.below {B : Nat} {w w' : World} {S : Nat → Prop} {sz n : Nat} {v : Value} {xs : List Value} (h : Row w S sz v n xs) (hb : Below B w w') (hB : ∀ b, b < w.heap.size → B ≤ b → S b) : Row w' S sz v n xs := h.fr (Fr.ofB hb) hB
theorem Row.out {w : World} {S : Nat → Prop} {sz n : Nat} {v : Value} {xs : List Value} (h : Row w S sz v n xs) : Row w (fun b => w.heap.size ≤ b) sz v n xs := by
  obtain ⟨h0, A, c, rfl, h1, h2, h3, h5⟩ := h
  refine ⟨h0, A, c, rfl, h1, h2, h3, fun a ha hn => ?_⟩
  obtain ⟨b, o, p1, p2, p3, p4⟩ := h5 a ha hn
  exact ⟨b, o, p1, by omega, p3, p4⟩
/-- What came in, read in a later world. -/
theorem Row.later {B : Nat} {w w' : World} {sz n : Nat} {v : Value} {xs : List Value} (h : Row w (fun b => B ≤ b) sz v n xs) (hb : Below B w w') : Row w' (fun b => B ≤ b) sz v n xs := h.below hb (fun _ _ h => h)
theorem Lo.nil (B : Nat) : Lo B (.slice none 0 0) := fun b h => by cases h
section
variable {H : Type} {enc : TypeId × Value → H} {P : Program} {W : World}
/-- These cells read as data of this type, whose weights are small. -/
def Reads (enc : TypeId × Value → H) (P : Program) (W : World) (t : TypeId) (cs : List Value) : Prop :=
  ∃ fuel d ps, DataW.trod enc P W 0 (fun _ => true) true fuel t cs = some (d, ps) ∧ ∀ m ∈ d.weights P t, m ≤ reachBytes
theorem mapM_cells {w : World} {a : Addr} {n : Nat} {l : List Value} (h : w.cells? 0 a n = some l) : l.length = n ∧ ∀ i u, l[i]? = some u → w.cell? (a.add i) = some u := by
  unfold World.cells? at h
  rw [if_pos (Nat.zero_le _)] at h
  have hl : l.length = n := by simpa using mapM_some_length h
  refine ⟨hl, fun i u hi => ?_⟩
  have hin : i < n := by have := (List.getElem?_eq_some_iff.1 hi).1; omega
  have := mapM_some_get h i i (by simp [hin])
  rw [this]; exact hi
theorem flat_at {els : List (List Value)} {sz : Nat} (h : ∀ c ∈ els, c.length = sz) (hz : 0 < sz) (j : Nat) (u : Value) : els.flatten[j]? = some u → ∃ c, els[j / sz]? = some c ∧ c[j % sz]? = some u := by
  induction els generalizing j with
  | nil => intro hj; simp at hj
  | cons c els ih =>
    intro hj
    have hc := h c (by simp)
    rw [List.flatten_cons] at hj
    by_cases hlt : j < c.length
    · rw [List.getElem?_append_left hlt] at hj
      refine ⟨c, by rw [Nat.div_eq_of_lt (by omega)]; rfl, by rw [Nat.mod_eq_of_lt (by omega)]; exact hj⟩
    · rw [List.getElem?_append_right (by omega)] at hj
      obtain ⟨c', h1, h2⟩ := ih (fun c hc => h c (by simp [hc])) _ hj
      have hj2 : j = (j - c.length) + sz := by omega
      refine ⟨c', ?_, ?_⟩
      · rw [hj2, Nat.add_div_right _ hz, List.getElem?_cons_succ]; exact h1
      · rw [hj2, Nat.add_mod_right]; exact h2
theorem weightsAll_mem {e : TypeId} {ds : List (DataW H)} {d : DataW H} (h : d ∈ ds) {m : Nat} (hm : m ∈ d.weights P e) : m ∈ DataW.weightsAll P e ds := by
  induction ds with
  | nil => cases h
  | cons x ds ih =>
    simp only [DataW.weightsAll, List.mem_append]
    rcases List.mem_cons.1 h with rfl | h
    · exact .inl hm
    · exact .inr (ih h)
/-- A slice. -/
theorem Reads.slice {t e : TypeId} {sz B : Nat} {cs : List Value} (h : Reads enc P W t cs) (hu : P.underlying t = some (.slice e)) (hc : P.cellsOf e = sz) (hz : 0 < sz) (hB : P.bytesOf e = B) :
    ∃ (v : Value) (els : List (List Value)), cs = [v] ∧ (∀ c ∈ els, c.length = sz) ∧ Row W (fun _ => False) sz v els.length els.flatten ∧ els.length * B ≤ 140737488351232 ∧ ∀ c ∈ els, Reads enc P W e c := by
  subst hc hB
  obtain ⟨fuel, d, ps, h, hw⟩ := h
  rcases DataW.trod_slice hu h with ⟨rfl, hx⟩ | ⟨a, len, cap, elems, rest, n, rfl, rfl, hx, hb, hl, hm, hlen, hel, hsp, hns⟩
  · exact ⟨_, [], rfl, (fun c h => by cases h), ⟨by simp, none, 0, rfl, Nat.le_refl _, by decide, fun _ => rfl, fun a h => by cases h⟩, by simp, fun c h => by cases h⟩
  · obtain ⟨rfl, rfl⟩ := Prod.mk.inj hx
    have hget : ∀ i, i < len → ∃ c d' ps', W.cells? 0 (a.add (i * P.cellsOf e)) (P.cellsOf e) = some c ∧ elems[i]? = some (d', ps') ∧ DataW.trod enc P W 0 (fun _ => true) true n e c = some (d', ps') := by
      intro i hi
      have h1 := hel i hi
      have hie : i < elems.length := by omega
      rw [List.getElem?_eq_getElem hie] at h1
      obtain ⟨c, h2, h3⟩ := Option.bind_eq_some_iff.1 h1
      exact ⟨c, elems[i].1, elems[i].2, h2, by rw [List.getElem?_eq_getElem hie], h3⟩
    let els : List (List Value) := (List.range len).map fun i => ((W.cells? 0 (a.add (i * P.cellsOf e)) (P.cellsOf e)).getD [])
    have hels : ∀ i, i < len → ∃ c, els[i]? = some c ∧ W.cells? 0 (a.add (i * P.cellsOf e)) (P.cellsOf e) = some c := by
      intro i hi
      obtain ⟨c, _, _, h1, _, _⟩ := hget i hi
      exact ⟨c, by simp [els, hi, h1], h1⟩
    have hlen2 : els.length = len := by simp [els]
    have hall : ∀ c ∈ els, ∃ i, i < len ∧ W.cells? 0 (a.add (i * P.cellsOf e)) (P.cellsOf e) = some c := by
      intro c hc
      obtain ⟨i, hi, hic⟩ := List.mem_iff_getElem.1 hc
      obtain ⟨c', h1, h2⟩ := hels i (by omega)
      rw [List.getElem?_eq_getElem hi, hic] at h1
      cases h1
      exact ⟨i, by omega, h2⟩
    have hcl : ∀ c ∈ els, c.length = P.cellsOf e := fun c hc => by obtain ⟨i, _, h⟩ := hall c hc; exact (mapM_cells h).1
    have hflat : els.flatten.length = len * P.cellsOf e := by
      have : ∀ (l : List (List Value)), (∀ c ∈ l, c.length = P.cellsOf e) → l.flatten.length = l.length * P.cellsOf e := by
        intro l; induction l with
        | nil => simp
        | cons c l ih => intro h; rw [List.flatten_cons, List.length_append, ih (fun c hc => h c (by simp [hc])), h c (by simp), List.length_cons, Nat.add_mul]; omega
      rw [this els hcl, hlen2]
    refine ⟨.slice (some a) len cap, els, rfl, hcl, ⟨by rw [hflat, hlen2], some a, cap, by rw [hlen2], by omega, hm, (fun h => by cases h), fun a' ha hn => ?_⟩, ?_, fun c hc => ?_⟩
    · obtain rfl : a = a' := by injection ha
      obtain ⟨c0, h1, h2⟩ := hels 0 (by omega)
      obtain ⟨hc0, hcell⟩ := mapM_cells h2
      have h00 : 0 < c0.length := by rw [hc0]; exact hz
      have hcc := hcell 0 _ (List.getElem?_eq_getElem h00)
      have e0 : (a.add (0 * P.cellsOf e)).add 0 = a := by simp [Addr.add]
      rw [e0] at hcc
      have hsp2 := World.cell?_spot hcc
      obtain ⟨b, o, s⟩ := a
      simp only at hsp2
      subst hsp2
      refine ⟨b, o, rfl, fun h => h, World.block_lt_of_cell? W _ hcc, fun j u hj => ?_⟩
      obtain ⟨c, h3, h4⟩ := flat_at hcl hz j u hj
      have hjl : j / P.cellsOf e < len := by have := (List.getElem?_eq_some_iff.1 h3).1; omega
      obtain ⟨c', h5, h6⟩ := hels _ hjl
      rw [h3] at h5; cases h5
      have := (mapM_cells h6).2 _ _ h4
      rw [Addr.add_lit, Addr.add_lit] at this
      rwa [Nat.add_assoc, Nat.div_add_mod' j (P.cellsOf e)] at this
    · have h1 := hw ((elems.map (·.1)).length + (rest.map (·.1)).length |> (· * P.bytesOf e)) (by simp [DataW.weights, hu])
      rw [hlen2]
      refine Nat.le_trans (Nat.mul_le_mul_right _ ?_) h1
      simp; omega
    · obtain ⟨i, hi, h1⟩ := hall c hc
      obtain ⟨c', d', ps', h2, h3, h4⟩ := hget i hi
      rw [h1] at h2; cases h2
      refine ⟨n, d', ps', h4, fun m hm => hw m ?_⟩
      simp only [DataW.weights, hu, List.mem_cons, List.mem_append]
      exact .inr (.inl (weightsAll_mem (List.mem_map.2 ⟨(d', ps'), List.mem_of_getElem? h3, rfl⟩) hm))
/-- A struct's field. -/
theorem Reads.field {t : TypeId} {fs : Array Field} {cs : List Value} (h : Reads enc P W t cs) (hu : P.underlying t = some (.struct fs)) :
    cs.length = P.cellsOf t ∧ ∀ (i : Nat) (f : Field), fs[i]? = some f → Reads enc P W f.type ((cs.drop f.offset).take (P.cellsOf f.type)) := by
  obtain ⟨fuel, d, ps, h, hw⟩ := h
  obtain ⟨xs, n, rfl, hx, hl, hxl, hf⟩ := DataW.trod_struct hu h
  obtain ⟨rfl, rfl⟩ := Prod.mk.inj hx
  refine ⟨hl, fun i f hi => ?_⟩
  have h1 := hf i f hi
  have hix : i < xs.length := by have := (Array.getElem?_eq_some_iff.1 hi).1; omega
  rw [List.getElem?_eq_getElem hix] at h1
  refine ⟨n, xs[i].1, xs[i].2, h1, fun m hm => hw m ?_⟩
  simp only [DataW.weights, hu]
  exact DataW.weights_mem_each (j := i) (by simp [hi]) (by simp [List.getElem?_eq_getElem hix]) m hm
/-- A whole number. -/
theorem Reads.int {t : TypeId} {k : IntKind} {cs : List Value} (h : Reads enc P W t cs) (hu : P.underlying t = some (.int k)) : ∃ n, cs = [.int k n] ∧ (Lit.int k n).wf = true := by
  obtain ⟨fuel, d, ps, h, hw⟩ := h
  obtain ⟨n, rfl, -, hn⟩ := DataW.trod_int hu h
  exact ⟨n, rfl, hn⟩
/-- An argument. -/
theorem Reads.of_arg {t : TypeId} {v : Value} {d : DataW H} {ps : List MemPlace} (h : DataW.Trod enc P W 0 (fun _ => true) true t v d ps) (hv : v.cells.toList = [v]) {ts : List TypeId} {ds : List (DataW H)} (hsz : (DataW.weightsEach P ts ds).all (· ≤ reachBytes) = true) {j : Nat} (ht : ts[j]? = some t) (hd : ds[j]? = some d) : Reads enc P W t [v] := by
  obtain ⟨fuel, hf⟩ := h
  rw [hv] at hf
  exact ⟨fuel, d, ps, hf, fun m hm => by have := List.all_eq_true.1 hsz m (DataW.weights_mem_each ht hd m hm); simpa using this⟩
end
theorem exists_map {α β : Type} (f : β → α) : ∀ (l : List α), (∀ c ∈ l, ∃ x, c = f x) → ∃ m : List β, l = m.map f
  | [], _ => ⟨[], rfl⟩
  | c :: l, h => by
    obtain ⟨x, rfl⟩ := h c (by simp)
    obtain ⟨m, rfl⟩ := exists_map f l (fun c hc => h c (by simp [hc]))
    exact ⟨x :: m, rfl⟩
theorem wanted_go {c : Bool} {t e : Prop} (hc : c = true) (h : t) : if c = true then t else e := by rw [if_pos hc]; exact h
/-- From here on, whatever is written behind. -/
def Ev (C : World → Prop) (W : World) : Prop := ∀ W', Below W.heap.size W W' → C W'
theorem Ev.go {C : World → Prop} {W W' : World} (h : Ev C W) (b : Below W.heap.size W W') : C W' ∧ Ev C W' := ⟨h _ b, fun W2 h2 => h _ (b.trans (h2.mono b.size))⟩
/-! ### rows of the call's own -/
section
variable {w w' : World} {e : TypeId} {sz n : Nat} {v : Value} {xs : List Value}
/-- A row of the call's own, read. -/
theorem own_row (h : w.ownsRow 0 e sz v n xs) {S : Nat → Prop} (hS : ∀ b, v.ownBlock = some b → ¬ S b) : Row w S sz v n xs := by
  obtain ⟨hl, ⟨rfl, rfl⟩ | ⟨g, cap, cur, rfl, hg, hh, hcap, hmax, hsz, ht⟩⟩ := id h
  · exact ⟨hl, none, 0, rfl, Nat.le_refl _, by decide, fun _ => rfl, fun a h => by cases h⟩
  · refine ⟨hl, some ⟨g, 0, none⟩, cap, rfl, hcap, hmax, (fun h => by cases h), fun a ha hn => ?_⟩
    obtain rfl : (⟨g, 0, none⟩ : Addr) = a := by injection ha
    refine ⟨g, 0, rfl, hS g rfl, (Array.getElem?_eq_some_iff.1 hh).1, fun j u hj => ?_⟩
    have := h.cells (g := g) rfl j u hj
    rwa [Addr.add_lit] at this
theorem own_lt (h : w.ownsRow 0 e sz v n xs) : ∀ b, v.ownBlock = some b → b < w.heap.size := fun b hb => (h.lt b hb).2
theorem own_old (h : w.ownsRow 0 e sz v n xs) : Row w (fun b => w.heap.size ≤ b) sz v n xs := own_row h (fun b hb h2 => by have := own_lt h b hb; omega)
theorem own_slice (h : w.ownsRow 0 e sz v n xs) : ∃ A c, v = .slice A n c ∧ n ≤ c ∧ c ≤ 9223372036854775807 := by
  obtain ⟨_, ⟨rfl, rfl⟩ | ⟨g, cap, cur, rfl, hg, hh, hcap, hmax, _⟩⟩ := h
  · exact ⟨none, 0, rfl, Nat.le_refl _, by decide⟩
  · exact ⟨_, _, rfl, hcap, by unfold maxLen at hmax; omega⟩
theorem own_nil (w : World) (e : TypeId) (sz : Nat) : w.ownsRow 0 e sz (.slice none 0 0) 0 [] := World.ownsRow_nil _ _ _ _
theorem own_below {B : Nat} (h : w.ownsRow 0 e sz v n xs) (hb : Below B w w') (hlt : ∀ b, v.ownBlock = some b → b < B) : w'.ownsRow 0 e sz v n xs :=
  own_fr h (Fr.ofB hb) (fun b hv hB => by have := hlt b hv; omega)
/-- Where the cells of one's own row lie; a cell is written. -/
theorem own_at {A : Option Addr} {m c : Nat} (h : w.ownsRow 0 e sz (.slice A m c) n xs) (hn : 0 < n) : ∃ k, A = some ⟨k, 0, none⟩ ∧ m = n ∧ k < w.heap.size ∧ (∀ j u, xs[j]? = some u → w.cell? ⟨k, j, none⟩ = some u) ∧ (∀ j, w.frozen? ⟨k, j, none⟩ = false) ∧
    ∀ i y, i < n * sz → (w.setCell ⟨k, i, none⟩ y).ownsRow 0 e sz (.slice (some ⟨k, 0, none⟩) n c) n (xs.set i y) := by
  obtain ⟨hl, ⟨hv, h0⟩ | ⟨g, cap, cur, hv, hb, hh, hcap, hmax, hsz, ht⟩⟩ := id h
  · omega
  · injection hv with e1 e2 e3
    subst e1 e2 e3
    refine ⟨g, rfl, rfl, (Array.getElem?_eq_some_iff.1 hh).1, fun j u hj => ?_, fun j => row_free hh, fun i y hi => ⟨by simpa using hl, .inr ⟨g, c, cur.setIfInBounds i y, rfl, hb, row_set hh _ rfl, hcap, hmax, by simp [hsz], ?_⟩⟩⟩
    · have := h.cells (g := g) rfl j u hj
      rwa [Addr.add_lit, Nat.zero_add] at this
    · rw [Array.toList_setIfInBounds, List.take_set, ht]
end
section
variable {P : Program} {w : World} {o : Oper} {a : Act} {K : Act → World → Prop} {Q : Exit → Act → World → Prop} {e : TypeId} {z : Value} {sz bytes n m : Nat} {v : Value} {xs news : List Value}
/-- What was read is appended to one's own row. -/
theorem wp_appR (s x : Operand) (t : TypeId) (ho : o.op = .call { callee := .builtin .append, args := #[s, x], argTypes := #[t, t] })
    (ht : P.underlying t = some (.slice e)) (hinfo : (P.info? e).map (fun i => (i.zero, i.size, i.bytes)) = some (some z, sz, bytes)) (hzs : z.cells.size = sz) (hsz : 0 < sz) (hb0 : 0 < bytes)
    {xv : Value} (hs : a.eval s = v) (hown : w.ownsRow 0 e sz v n xs) {S : Nat → Prop} (hx : a.eval x = xv) (hb : Row w S sz xv m news) (h1 : ∀ u ∈ news, u.oneCell' = true) (hl : (n + m) * bytes ≤ 140737488355328)
    (h : ∀ v' w', w'.ownsRow 0 e sz v' (n + m) (xs ++ news) → Nx w v v' → FrV v w w' → K (a.put o.dst v') w') : Oper.wp P o a w K Q := by
  obtain ⟨h0, A, c, rfl, q1, q2, q3, q5⟩ := hb
  refine wp_app w s x t ho e z sz bytes ht hinfo hzs hsz v n xs hs hown A m c news hx h0 (fun hA => by have := q3 hA; omega) (fun ad hA j u hj => ?_) h1 hl hb0 h
  have hm : 0 < m := by
    rcases Nat.eq_zero_or_pos m with rfl | hm
    · have := (List.getElem?_eq_some_iff.1 hj).1; omega
    · exact hm
  obtain ⟨b, o2, rfl, -, -, p4⟩ := q5 ad hA hm
  rw [Addr.add_lit]; exact p4 j u hj
/-- One element, just laid, is appended to one's own row. -/
theorem wp_app1 (s x : Operand) (t : TypeId) (ho : o.op = .call { callee := .builtin .append, args := #[s, x], argTypes := #[t, t] })
    (ht : P.underlying t = some (.slice e)) (hinfo : (P.info? e).map (fun i => (i.zero, i.size, i.bytes)) = some (some z, sz, bytes)) (hzs : z.cells.size = sz) (hsz : 0 < sz) (hb0 : 0 < bytes)
    (us : List Value) (hus : us.length = sz) (h1 : ∀ u ∈ us, u.oneCell' = true) {ty : TypeId}
    (hs : a.eval s = v) (hown : w.ownsRow 0 e sz v n xs) (hx : a.eval x = .slice (some ⟨w.heap.size, 0, none⟩) 1 1) (hl : (n + 1) * bytes ≤ 140737488355328)
    (h : ∀ v' w', w'.ownsRow 0 e sz v' (n + 1) (xs ++ us) → Nx w v v' → FrV v w w' → K (a.put o.dst v') w') : Oper.wp P o a (w.alloc (.cells us.toArray ty)) K Q := by
  have hal : Fr (fun _ => False) w (w.alloc (.cells us.toArray ty)) := (Fr.refl _ w).alloc _
  refine wp_app _ s x t ho e z sz bytes ht hinfo hzs hsz v n xs hs (own_fr hown hal (fun _ _ h => h)) (some ⟨w.heap.size, 0, none⟩) 1 1 us hx (by omega) (fun h => by cases h) (new_cells w us ty) h1 hl hb0 (fun v' w' h1' h2 h3 => h v' w' h1' ?_ ?_)
  · rcases h2 with h2 | ⟨b, h2, hb⟩
    · exact .inl h2
    · exact .inr ⟨b, h2, Nat.le_trans hal.size hb⟩
  · exact Fr.trans (S := fun b => v.ownBlock = some b) ((Fr.refl _ w).alloc _) h3 (fun b hb => .inl hb)
end
section
variable {P : Program} {w : World} {ops : Array Oper} {rest : List Oper} {o : Oper} {a : Act} {Q : Exit → Act → World → Prop} {e : TypeId} {z : Value} {sz bytes n m : Nat} {v : Value} {xs news : List Value}
theorem wpList_appR (hgd : o.guard = none) (s x : Operand) (t : TypeId) (ho : o.op = .call { callee := .builtin .append, args := #[s, x], argTypes := #[t, t] })
    (ht : P.underlying t = some (.slice e)) (hinfo : (P.info? e).map (fun i => (i.zero, i.size, i.bytes)) = some (some z, sz, bytes)) (hzs : z.cells.size = sz) (hsz : 0 < sz) (hb0 : 0 < bytes)
    {xv : Value} (hs : a.eval s = v) (hown : w.ownsRow 0 e sz v n xs) {S : Nat → Prop} (hx : a.eval x = xv) (hb : Row w S sz xv m news) (h1 : ∀ u ∈ news, u.oneCell' = true) (hl : (n + m) * bytes ≤ 140737488355328)
    (h : ∀ v' w', w'.ownsRow 0 e sz v' (n + m) (xs ++ news) → Nx w v v' → FrV v w w' → wpList P ops Q rest (a.put o.dst v') w') : wpList P ops Q (o :: rest) a w :=
  wpList_of_wp hgd fun _ hK => wp_appR s x t ho ht hinfo hzs hsz hb0 hs hown hx hb h1 hl (fun v' w' h1 h2 h3 => hK _ _ (h v' w' h1 h2 h3))
theorem wpList_app1 (hgd : o.guard = none) (s x : Operand) (t : TypeId) (ho : o.op = .call { callee := .builtin .append, args := #[s, x], argTypes := #[t, t] })
    (ht : P.underlying t = some (.slice e)) (hinfo : (P.info? e).map (fun i => (i.zero, i.size, i.bytes)) = some (some z, sz, bytes)) (hzs : z.cells.size = sz) (hsz : 0 < sz) (hb0 : 0 < bytes)
    (us : List Value) (hus : us.length = sz) (h1 : ∀ u ∈ us, u.oneCell' = true) {ty : TypeId}
    (hs : a.eval s = v) (hown : w.ownsRow 0 e sz v n xs) (hx : a.eval x = .slice (some ⟨w.heap.size, 0, none⟩) 1 1) (hl : (n + 1) * bytes ≤ 140737488355328)
    (h : ∀ v' w', w'.ownsRow 0 e sz v' (n + 1) (xs ++ us) → Nx w v v' → FrV v w w' → wpList P ops Q rest (a.put o.dst v') w') : wpList P ops Q (o :: rest) a (w.alloc (.cells us.toArray ty)) :=
  wpList_of_wp hgd fun _ hK => wp_app1 s x t ho ht hinfo hzs hsz hb0 us hus h1 hs hown hx hl (fun v' w' h1 h2 h3 => hK _ _ (h v' w' h1 h2 h3))
end
theorem nums_append (k : IntKind) (l m : List Int) : nums k l ++ nums k m = nums k (l ++ m) := by simp [nums]
theorem nums_one (k : IntKind) (l : List Int) : ∀ u ∈ nums k l, u.oneCell' = true := by intro u hu; obtain ⟨x, _, rfl⟩ := List.mem_map.1 hu; rfl
/-- A beginning of a row. -/
theorem Row.take {w : World} {S : Nat → Prop} {sz n c : Nat} {A : Option Addr} {xs : List Value} (h : Row w S sz (.slice A n c) n xs) {j : Nat} (hj : j ≤ n) : Row w S sz (.slice A j c) j (xs.take (j * sz)) := by
  obtain ⟨h0, A', c', hv, h1, h2, h3, h5⟩ := h
  injection hv with e1 e2 e3
  subst e1 e3
  have hm : j * sz ≤ n * sz := Nat.mul_le_mul_right _ hj
  refine ⟨by simp; omega, A, c, rfl, by omega, h2, h3, fun a ha hn => ?_⟩
  obtain ⟨b, o, p1, p2, p3, p4⟩ := h5 a ha (by omega)
  refine ⟨b, o, p1, p2, p3, fun k u hk => p4 k u ?_⟩
  rw [List.getElem?_take] at hk
  split at hk
  · exact hk
  · cases hk
theorem Row.cells {w : World} {S : Nat → Prop} {sz n c b o : Nat} {xs : List Value} (h : Row w S sz (.slice (some ⟨b, o, none⟩) n c) n xs) {j : Nat} {u : Value} (hj : xs[j]? = some u) : w.cell? ⟨b, o + j, none⟩ = some u := by
  have hn : 0 < n := by
    rcases Nat.eq_zero_or_pos n with rfl | hn
    · have := h.1; have := (List.getElem?_eq_some_iff.1 hj).1; omega
    · exact hn
  obtain ⟨b', o', e, -, -, hc⟩ := h.at_ hn
  cases e
  exact hc j u hj
theorem Fr.belowS {S : Nat → Prop} {w w' : World} (h : Fr S w w') {B : Nat} (hs : ∀ b, S b → B ≤ b) (hB : B ≤ w.heap.size) : Below B w w' :=
  ⟨h.os, h.tape, h.output, h.size, fun k hk => h.block k (Nat.lt_of_lt_of_le hk hB) (fun hb => by have := hs k hb; omega)⟩
/-! ### a region that only reads, its list behind a name: elaboration then does not unfold the operations that are skipped -/
theorem wpQuiet_hide {P : Program} {ops : Array Oper} {C : World → Prop} {Q : Act → Prop} {a : Act} {l0 : List Oper} (h : ∀ l : List Oper, Hid (l = l0) → wpQuiet P ops C Q l a) : wpQuiet P ops C Q l0 a := h l0 (Lib.hid rfl)
theorem wpQuiet_step_h {P : Program} {ops : Array Oper} {C : World → Prop} {Q : Act → Prop} {a : Act} {l rest : List Oper} {o : Oper} (hl : Hid (l = o :: rest))
    (h : ∀ (K : Act → Prop) (r : List Oper), Hid (r = rest) → (∀ a, wpQuiet P ops C Q r a → K a) → if Region.wanted o (yielded ops a.tmps) then o.quiet P a C K else K (a.put o.dst undef)) : wpQuiet P ops C Q l a := by
  rw [hl.out]
  exact wpQuiet_step (fun K hK => h K rest (Lib.hid rfl) hK)
theorem wpQuiet_nil_h {P : Program} {ops : Array Oper} {C : World → Prop} {Q : Act → Prop} {a : Act} {l : List Oper} (hl : Hid (l = [])) (h : Q a) : wpQuiet P ops C Q l a := by
  rw [hl.out]; exact h
/-- A region of open order, every operation quiet in the class C. -/
theorem wp_region_C {P : Program} {C : World → Prop} {id : Nat} {Q : Exit → Act → World → Prop} {a : Act} {w : World} {l : List Oper} (hm : P.follows .mixedOrders = true) (hB : Region.lexB .any l.toArray = true) (hC : C w.drew)
    (h : wpQuiet P l.toArray C (fun a' => ∀ w', C w' → Q .normal a' w') l a) : (Code.region id l.toArray true).wp P Q a w :=
  wp_region_quiet (C := C) hm hB hC (by simpa using h)
end Go.Proofs.YtnljjlaececnkaaGreatDoor
/-
  Addresses and prefixes: the words; masked. Condition: an address is sixteen bytes.
-/
namespace Go.Proofs.YtnljjlaececnkaaGreatDoor
open Go.RowKit
set_option linter.unusedVariables false
set_option linter.unusedSimpArgs false
/-- An address's cells; its value. -/
def vA (a : List Int) : Value := .agg (nums .u8 a).toArray
def isA (a : List Int) : Prop := a.length = 16 ∧ ∀ x ∈ a, 0 ≤ x ∧ x < 256
/-- How many bits of byte i are kept of n. -/
def keepOf (n : Int) (i : Nat) : Nat := (min (max (n - 8 * i) 0) 8).toNat
def mskB (x : Int) (k : Nat) : Int := x - x % 2 ^ (8 - k)
def msk (a : List Int) (n : Int) : List Int := a.zipIdx.map fun p => mskB p.1 (keepOf n p.2)
theorem size42 : (Tryz.prog.info? 42).map (·.size) = some 16 := by kernel_rfl
theorem msk_len (a : List Int) (n : Int) : (msk a n).length = a.length := by simp [msk]
theorem msk_get {a : List Int} {n : Int} {j : Nat} {x : Int} (h : a[j]? = some x) : (msk a n)[j]? = some (mskB x (keepOf n j)) := by simp [msk, h]
theorem nums_get {k : IntKind} {l : List Int} {j : Nat} {y : Int} (h : l[j]? = some y) : (nums k l)[j]? = some (.int k y) := by simp [nums, h]
theorem take_snoc {α : Type} {l : List α} {j : Nat} {y : α} (h : l[j]? = some y) : l.take (j + 1) = l.take j ++ [y] := by
  obtain ⟨hj, rfl⟩ := List.getElem?_eq_some_iff.1 h
  exact List.take_succ_eq_append_getElem hj
theorem get_some {α : Type} {l : List α} {j : Nat} (h : j < l.length) : ∃ y, l[j]? = some y := ⟨_, List.getElem?_eq_getElem h⟩
theorem nums_set (k : IntKind) (l : List Int) (i : Nat) (y : Int) : (nums k l).set i (.int k y) = nums k (l.set i y) := by simp [nums, List.map_set]
/-- The first j bytes masked. -/
def mskT (a : List Int) (n : Int) (j : Nat) : List Int := (msk a n).take j ++ a.drop j
theorem mskT_step {a : List Int} {n : Int} {j : Nat} {x : Int} (h : a[j]? = some x) : (mskT a n j)[j]? = some x ∧ (mskT a n j).set j (mskB x (keepOf n j)) = mskT a n (j + 1) := by
  obtain ⟨hj, rfl⟩ := List.getElem?_eq_some_iff.1 h
  have hl : ((msk a n).take j).length = j := by simp [msk_len]; omega
  unfold mskT
  refine ⟨?_, ?_⟩
  · rw [List.getElem?_append_right (by omega), hl, Nat.sub_self, List.getElem?_drop]; simp
  · rw [List.set_append_right _ _ (by omega), hl, Nat.sub_self, List.drop_eq_getElem_cons hj, List.set_cons_zero, take_snoc (msk_get h), List.append_assoc]; rfl
theorem mask_bits : ∀ x : Fin 256, ∀ k : Fin 9, bits .and .u8 (x.val : Int) (IntKind.u8.wrap ((65280 : Int) / 2 ^ k.val)) = mskB x.val k.val := by decide +kernel
theorem mask_eq {x : Int} {k : Nat} (h0 : 0 ≤ x) (h1 : x < 256) (hk : k ≤ 8) : bits .and .u8 x (IntKind.u8.wrap ((65280 : Int) / 2 ^ k)) = mskB x k := by
  have := mask_bits ⟨x.toNat, by omega⟩ ⟨k, by omega⟩
  simpa [Int.toNat_of_nonneg h0] using this
theorem below_row {B g : Nat} {w0 w : World} (hb : Below B w0 w) (hBg : B ≤ g) (cs : Array Value) : Below B w0 (w.setRow g cs) :=
  ⟨hb.os, hb.tape, hb.output, by rw [size_setRow]; exact hb.size, fun k hk => by rw [setRow_other _ _ _ _ (by omega)]; exact hb.block k hk⟩
theorem heap_two (w : World) (o1 o2 : Obj) : ((w.alloc o1).alloc o2).heap[w.heap.size + 1]? = some o2 := by
  have := heap_alloc_new (w.alloc o1) o2
  rwa [show (w.alloc o1).heap.size = w.heap.size + 1 from by simp] at this
set_option maxRecDepth 100000 in
set_option maxHeartbeats 800000 in
theorem masked_any {w : World} {a : List Int} (ha : isA a) (n : Int) (h0 : 0 ≤ n) (h1 : n ≤ 128) :
    Calls Tryz.prog 111 #[vA a, .int .i64 n] w fun e w' => e = .returned (vA (msk a n)) ∧ Below w.heap.size w w' := by
  obtain ⟨hl, hb⟩ := ha
  replace hb := Lib.hid hb
  unfold vA
  go_enter Tryz.func111, Tryz.ntmps111
  go_wp2
  go_loopw [7] (fun x wr => ∃ j : Nat, x = .int .i64 j ∧ j ≤ 16 ∧ wr.heap[w.heap.size]? = some (.cells (nums .u8 (mskT a n j)).toArray 42 (0, 0)) ∧ (∃ z, z.size = 16 ∧ wr.heap[w.heap.size + 1]? = some (.cells z 42 (0, 0))) ∧ Below w.heap.size w wr) (fun x wr => 16 - (intOf x).toNat)
  case atStart =>
    refine ⟨0, rfl, by omega, ?_, ⟨_, ?_, heap_two w _ _⟩, ((Below.refl _ _).alloc (Nat.le_refl _) _).alloc (by simp) _⟩
    · rw [Below.heap_alloc _ _ _ (by simp)]; exact heap_alloc_new w _
    · rfl
  case round =>
    obtain ⟨j, rfl, hj, hr, ⟨z, hz, hr2⟩, bel⟩ := hrel
    by_cases hlt : j < 16
    · obtain ⟨x, hx⟩ := get_some (l := a) (j := j) (by omega)
      obtain ⟨x0, x1⟩ := hb.out x (List.mem_of_getElem? hx)
      obtain ⟨m1, m2⟩ := mskT_step (n := n) hx
      obtain ⟨d, hd⟩ : ∃ d : Int, n - 8 * (j : Int) = d := ⟨_, rfl⟩
      obtain ⟨e, he⟩ : ∃ e : Int, (if d < 0 then 0 else d) = e := ⟨_, rfl⟩
      obtain ⟨k, hk, hk8⟩ : ∃ k : Nat, (if 8 < e then 8 else e) = (k : Int) ∧ k ≤ 8 := ⟨(if 8 < e then 8 else e).toNat, by omega, by omega⟩
      have hkk : keepOf n j = k := by unfold keepOf; omega
      have hmb := mask_eq x0 x1 hk8
      rw [hkk] at m2
      have hd0 : -1000 ≤ d ∧ d ≤ 1000 := by omega
      replace m2 := Lib.hid m2
      replace m1 := Lib.hid m1
      replace hkk := Lib.hid hkk
      replace hmb := Lib.hid hmb
      replace hl := Lib.hid hl
      replace hx := Lib.hid hx
      replace hr := Lib.hid hr
      replace hr2 := Lib.hid hr2
      go_wp2_with fail
      refine wp_region_tail 8 (by kernel_rfl) (by kernel_rfl) ?_
      intro w2 hw2
      have row2 : w2.heap[w.heap.size]? = some (.cells (nums .u8 (mskT a n j)).toArray 42 (0, 0)) := by rw [hw2]; exact hr.out
      have row3 : w2.heap[w.heap.size + 1]? = some (.cells z 42 (0, 0)) := by rw [hw2]; exact hr2.out
      have bel2 : Below w.heap.size w w2 := by rw [hw2]; exact ⟨bel.os, bel.tape, bel.output, bel.size, bel.block⟩
      clear hw2 bel hr hr2
      have c1 : w2.cell? ⟨w.heap.size, j, none⟩ = some (.int .u8 x) := (row_cell row2).trans (by rw [List.getElem?_toArray]; exact nums_get m1.out)
      have f1 : w2.frozen? ⟨w.heap.size, j, none⟩ = false := row_free row2
      have row4 := Lib.hid (row_set row2 (i := j) (cs' := (nums .u8 (mskT a n (j + 1))).toArray) (.int .u8 (mskB x k)) (by rw [List.setIfInBounds_toArray, nums_set, m2.out]))
      have g1 : Fr (fun b => b = w.heap.size) w2 (w2.setCell ⟨w.heap.size, j, none⟩ (.int .u8 (mskB x k))) := Fr.setCell (S := fun b => b = w.heap.size) (Fr.refl _ w2) (p := ⟨w.heap.size, j, none⟩) (.inl rfl) _
      have row5 := Lib.hid (g1.obj row3 (by omega))
      have bel3 := bel2.trans (g1.belowS (fun b hb => Nat.le_of_eq hb.symm) bel2.size)
      replace row2 := Lib.hid row2
      replace row3 := Lib.hid row3
      simp only [List.take_succ_cons, List.take_zero, List.drop_succ_cons, List.drop_zero]
      repeat still_step
      refine wpStill_nil ?_
      rw [hmb.out]
      go_wp2_with fail
      go_roundw
      case rel => exact ⟨j + 1, by go_num, by omega, row4.out, ⟨z, hz, row5.out⟩, bel3⟩
      case measure => simp [intOf]; omega
    · obtain rfl : j = 16 := by omega
      have e1 : mskT a n 16 = msk a n := by
        unfold mskT
        rw [List.take_of_length_le (by rw [msk_len]; omega), List.drop_of_length_le (by omega), List.append_nil]
      rw [e1] at hr
      clear e1
      have hnl : (nums .u8 (msk a n)).toArray.size = 16 := by simp [nums, msk_len, hl]
      have hsz : (Tryz.prog.info? 42).map (·.size) = some (nums .u8 (msk a n)).toArray.size := by rw [hnl]; exact size42
      have hfin := setRow_heap wr (w.heap.size + 1) z (nums .u8 (msk a n)).toArray 42 (0, 0) hr2
      have bel2 := below_row bel (show w.heap.size ≤ w.heap.size + 1 by omega) (nums .u8 (msk a n)).toArray
      replace hsz := Lib.hid hsz
      replace hfin := Lib.hid hfin
      replace hnl := Lib.hid hnl
      replace hr := Lib.hid hr
      replace hr2 := Lib.hid hr2
      replace hl := Lib.hid hl
      go_wp2_with (first
        | (refine wpList_load_row rfl 42 (.tmp 2) rfl w.heap.size rfl 42 (nums .u8 (msk a n)).toArray (0, 0) _ hr.out Tryz.underlying42 rfl hsz.out ?_)
        | (refine wpList_store_row rfl 42 (.tmp 4) (.tmp 25) rfl (w.heap.size + 1) (nums .u8 (msk a n)).toArray rfl rfl 42 z hr2.out hsz.out (by rw [hz, hnl.out]) (all_oneCell_toArray (nums_one _ _)) ?_))
      refine bodyPost_ret (v := vA (msk a n)) ?_ rfl ⟨rfl, bel2⟩
      exact results_cell_row rfl _ _ (w.heap.size + 1) 42 _ (0, 0) _ rfl hfin.out Tryz.underlying42 rfl hsz.out
end Go.Proofs.YtnljjlaececnkaaGreatDoor
/-
  Addresses and prefixes: the plain laws, no program in sight. Condition: an address is sixteen bytes.
-/
namespace Go.Proofs.YtnljjlaececnkaaGreatDoor
open Go.RowKit
set_option linter.unusedVariables false
set_option linter.unusedSimpArgs false
theorem mskB_rng : ∀ x : Fin 256, ∀ k : Fin 9, 0 ≤ mskB x.val k.val ∧ mskB x.val k.val < 256 := by decide +kernel
theorem byte_fin {x : Int} (h : 0 ≤ x ∧ x < 256) : ∃ f : Fin 256, x = f.val := ⟨⟨x.toNat, by omega⟩, by simp; omega⟩
theorem keep_le (n : Int) (i : Nat) : keepOf n i ≤ 8 := by unfold keepOf; omega
theorem mskB_byte {x : Int} (hx : 0 ≤ x ∧ x < 256) {k : Nat} (hk : k ≤ 8) : 0 ≤ mskB x k ∧ mskB x k < 256 := by
  obtain ⟨f, rfl⟩ := byte_fin hx
  exact mskB_rng f ⟨k, by omega⟩
theorem isA_msk {a : List Int} (ha : isA a) (n : Int) : isA (msk a n) := by
  refine ⟨by rw [msk_len]; exact ha.1, fun x hx => ?_⟩
  obtain ⟨j, hj, rfl⟩ := List.mem_iff_getElem.1 hx
  obtain ⟨y, hy⟩ := get_some (l := a) (j := j) (by rwa [msk_len] at hj)
  have h1 := msk_get (n := n) hy
  rw [List.getElem?_eq_getElem hj] at h1
  rw [Option.some.inj h1]
  exact mskB_byte (ha.2 y (List.mem_of_getElem? hy)) (keep_le _ _)
/-- How an IPv4 address begins. -/
def mapd : List Int := [0, 0, 0, 0, 0, 0, 0, 0, 0, 0, 255, 255]
def fam (a : List Int) : Int := if a.take 12 = mapd then 4 else 6
theorem fam_or (a : List Int) : fam a = 4 ∨ fam a = 6 := by unfold fam; split <;> simp
def zeroA : List Int := List.replicate 16 0
structure Pf where
  a : List Int
  n : Int
deriving DecidableEq
structure Pr where
  d : Pf
  s : Pf
deriving DecidableEq
def zeroP : Pf := ⟨zeroA, 0⟩
def chk (p : Pf) : Bool := decide (0 ≤ p.n) && decide (p.n ≤ 128) && decide (msk p.a p.n = p.a)
def cont (p : Pf) (a : List Int) : Bool := chk p && decide (msk a p.n = p.a)
def pfam (p : Pf) : Int := if p.n < 96 then 6 else fam p.a
def offOf (f : Int) : Int := if f = 4 then 96 else 0
def anyP (f : Int) : Pf := if f = 4 then ⟨mapd ++ [0, 0, 0, 0], 96⟩ else zeroP
theorem chk_iff (p : Pf) : chk p = true ↔ 0 ≤ p.n ∧ p.n ≤ 128 ∧ msk p.a p.n = p.a := by simp [chk, and_assoc]
def Pf.key (p : Pf) : List Int := p.a ++ [p.n]
def Pr.key (p : Pr) : List Int := p.d.key ++ p.s.key
/-- cmp.Or of two. -/
def or2 (x y : Int) : Int := if x = 0 then y else x
/-! ### the best pair -/
def Pr.ok (p : Pr) : Prop := isA p.d.a ∧ isA p.s.a
def chkPP (p : Pr) : Bool := chk p.d && chk p.s && decide (pfam p.d = pfam p.s)
def mat (p : Pr) (src dst : List Int) : Bool := chkPP p && cont p.d dst && cont p.s src
/-- What Best has found among the first i. -/
structure IsBest (l : List Pr) (src dst : List Int) (i : Nat) (k : Nat) (ok : Bool) : Prop where
  no : ok = false → k = 0 ∧ ∀ j p, j < i → l[j]? = some p → mat p src dst = false
  yes : ok = true → k < i ∧ ∃ b, l[k]? = some b ∧ mat b src dst = true ∧ ∀ j p, j < i → l[j]? = some p → mat p src dst = true → p.d.n < b.d.n ∨ p.d.n = b.d.n ∧ (p.s.n < b.s.n ∨ p.s.n = b.s.n ∧ k ≤ j)
theorem IsBest.start (l : List Pr) (src dst : List Int) : IsBest l src dst 0 0 false := ⟨fun _ => ⟨rfl, fun j p h => by omega⟩, fun h => (by cases h)⟩
theorem IsBest.skip {l : List Pr} {src dst : List Int} {i k : Nat} {ok : Bool} (h : IsBest l src dst i k ok) {p : Pr} (hp : l[i]? = some p) (hm : mat p src dst = false) : IsBest l src dst (i + 1) k ok := by
  refine ⟨fun h0 => ⟨(h.no h0).1, fun j q hj hq => ?_⟩, fun h1 => ?_⟩
  · by_cases hji : j = i
    · subst hji; rw [hp] at hq; cases hq; exact hm
    · exact (h.no h0).2 j q (by omega) hq
  · obtain ⟨hk, b, hb, hmb, hall⟩ := h.yes h1
    refine ⟨by omega, b, hb, hmb, fun j q hj hq hmq => ?_⟩
    by_cases hji : j = i
    · subst hji; rw [hp] at hq; cases hq; rw [hm] at hmq; cases hmq
    · exact hall j q (by omega) hq hmq
theorem IsBest.first {l : List Pr} {src dst : List Int} {i k : Nat} (h : IsBest l src dst i k false) {p : Pr} (hp : l[i]? = some p) (hm : mat p src dst = true) : IsBest l src dst (i + 1) i true := by
  refine ⟨fun h0 => (by cases h0), fun _ => ⟨by omega, p, hp, hm, fun j q hj hq hmq => ?_⟩⟩
  by_cases hji : j = i
  · subst hji; rw [hp] at hq; cases hq; omega
  · have := (h.no rfl).2 j q (by omega) hq; rw [this] at hmq; cases hmq
theorem IsBest.turn {l : List Pr} {src dst : List Int} {i k : Nat} (h : IsBest l src dst i k true) {p b : Pr} (hp : l[i]? = some p) (hb : l[k]? = some b) (hm : mat p src dst = true) (hc : ¬ or2 (Lib.compareInt p.d.n b.d.n) (Lib.compareInt p.s.n b.s.n) ≤ 0) : IsBest l src dst (i + 1) i true := by
  refine ⟨fun h0 => (by cases h0), fun _ => ?_⟩
  obtain ⟨hk, b', hb', hmb, hall⟩ := h.yes rfl
  rw [hb] at hb'; cases hb'
  refine ⟨by omega, p, hp, hm, fun j q hj hq hmq => ?_⟩
  by_cases hji : j = i
  · subst hji; rw [hp] at hq; cases hq; omega
  · have := hall j q (by omega) hq hmq
    unfold or2 Lib.compareInt at hc
    repeat' split at hc
    all_goals omega
end Go.Proofs.YtnljjlaececnkaaGreatDoor
/-
  Addresses, prefixes, pairs: when two are the same. Condition: each number is of its kind.
-/
namespace Go.Proofs.YtnljjlaececnkaaGreatDoor
open Go.RowKit
set_option linter.unusedVariables false
set_option linter.unusedSimpArgs false
theorem mapM_some {α β : Type} {f : α → Option β} {g : α → β} : ∀ (l : List α), (∀ i ∈ l, f i = some (g i)) → l.mapM f = some (l.map g)
  | [], _ => rfl
  | i :: l, h => by
    rw [List.mapM_cons, h i (by simp), mapM_some l (fun j hj => h j (by simp [hj]))]; rfl
theorem flatten_one {α β : Type} (g : α → β) (l : List α) : (l.map fun i => [g i]).flatten = l.map g := by induction l <;> simp_all
theorem range_getD (a : List Int) : (List.range a.length).map (fun i => a.getD i 0) = a := by
  apply List.ext_getElem
  · simp
  · intro i h1 h2; simp [List.getElem?_eq_getElem h2]
theorem kl_two {P : Program} {d : Nat} {t : TypeId} {f g : Field} {cs : List Value} {la lb : List Lit} (hu : P.underlying t = some (.struct #[f, g])) (hl : cs.length = P.cellsOf t) (hn : #[f, g].all (·.name != "_") = true)
    (h1 : P.keyLits d f.type ((cs.drop f.offset).take (P.cellsOf f.type)) = some la) (h2 : P.keyLits d g.type ((cs.drop g.offset).take (P.cellsOf g.type)) = some lb) : P.keyLits (d + 1) t cs = some (la ++ lb) := by
  unfold Program.keyLits
  simp only [hu]
  rw [if_pos ⟨hl, hn⟩]
  simp [List.mapM_cons, h1, h2]
theorem c42 : Tryz.prog.cellsOf 42 = 16 := by kernel_rfl
theorem c5 : Tryz.prog.cellsOf 5 = 1 := by kernel_rfl
theorem c3 : Tryz.prog.cellsOf 3 = 1 := by kernel_rfl
theorem c55 : Tryz.prog.cellsOf 55 = 17 := by kernel_rfl
theorem wf_u8 {x : Int} (h : 0 ≤ x ∧ x < 256) : (Lit.int .u8 x).wf = true := by
  have e1 : IntKind.u8.min = 0 := rfl
  have e2 : IntKind.u8.max = 255 := rfl
  simp [Lit.wf, e1, e2]; omega
theorem wf_i64 {x : Int} (h : -9223372036854775808 ≤ x ∧ x ≤ 9223372036854775807) : (Lit.int .i64 x).wf = true := by
  have e1 : IntKind.i64.min = -9223372036854775808 := rfl
  have e2 : IntKind.i64.max = 9223372036854775807 := rfl
  simp [Lit.wf, e1, e2]; omega
theorem i64_of_wf {x : Int} (h : (Lit.int .i64 x).wf = true) : -9223372036854775808 ≤ x ∧ x ≤ 9223372036854775807 := by
  have e1 : IntKind.i64.min = -9223372036854775808 := rfl
  have e2 : IntKind.i64.max = 9223372036854775807 := rfl
  simp [Lit.wf, e1, e2] at h; omega
theorem klI {q : IntKind} {t : TypeId} {x : Int} (hu : Tryz.prog.underlying t = some (.int q)) (h : (Lit.int q x).wf = true) (d : Nat) : Tryz.prog.keyLits (d + 1) t [.int q x] = some [.int q x] := by
  unfold Program.keyLits
  simp [hu, h]
theorem klA {a : List Int} (ha : isA a) (d : Nat) : Tryz.prog.keyLits (d + 1 + 1) 42 (nums .u8 a) = some (a.map (Lit.int .u8)) := by
  unfold Program.keyLits
  simp only [Tryz.underlying42]
  rw [if_pos (by rw [nums_length, ha.1, c42])]
  rw [mapM_some (g := fun i => [Lit.int .u8 (a.getD i 0)]) _ (fun i hi => ?_)]
  · have e : (List.range 16).map (fun i => Lit.int .u8 (a.getD i 0)) = a.map (Lit.int .u8) := by
      rw [← ha.1]
      conv => rhs; rw [← range_getD a]
      rw [List.map_map]; rfl
    rw [Option.map_some, flatten_one (fun i => Lit.int .u8 (a.getD i 0)), e]
  · have hi' : i < a.length := by rw [ha.1]; exact List.mem_range.1 hi
    obtain ⟨x, hx⟩ := get_some hi'
    have e : ((nums .u8 a).drop (i * Tryz.prog.cellsOf 5)).take (Tryz.prog.cellsOf 5) = [.int .u8 x] := by
      rw [c5, Nat.mul_one]
      have h1 := nums_get (k := .u8) hx
      obtain ⟨h2, h3⟩ := List.getElem?_eq_some_iff.1 h1
      rw [List.drop_eq_getElem_cons h2, h3]; rfl
    rw [e, klI Tryz.underlying5 (wf_u8 (ha.2 x (List.mem_of_getElem? hx)))]
    simp [hx]
/-- A prefix's cells. -/
def pCs (a : List Int) (n : Int) : List Value := nums .u8 a ++ [.int .i64 n]
theorem pCs_len {a : List Int} (ha : isA a) (n : Int) : (pCs a n).length = 17 := by simp [pCs, nums_length, ha.1]
theorem klP {a : List Int} {n : Int} (ha : isA a) (hn : (Lit.int .i64 n).wf = true) (d : Nat) : Tryz.prog.keyLits (d + 1 + 1 + 1) 55 (pCs a n) = some (a.map (Lit.int .u8) ++ [.int .i64 n]) := by
  have hl : (nums .u8 a).length = 16 := by rw [nums_length, ha.1]
  refine kl_two Tryz.underlying55 (by rw [pCs_len ha, c55]) (by kernel_rfl) ?_ ?_
  · show Tryz.prog.keyLits (d + 1 + 1) 42 (((pCs a n).drop 0).take (Tryz.prog.cellsOf 42)) = _
    rw [c42, List.drop_zero, pCs, List.take_left' hl]
    exact klA ha d
  · show Tryz.prog.keyLits (d + 1 + 1) 3 (((pCs a n).drop 16).take (Tryz.prog.cellsOf 3)) = _
    rw [c3, pCs, List.drop_left' hl]
    exact klI Tryz.underlying3 hn _
/-- A pair's value. -/
def vPP (p : Pr) : Value := .agg (pCs p.d.a p.d.n ++ pCs p.s.a p.s.n).toArray
def Pf.lits (p : Pf) : List Lit := p.a.map (Lit.int .u8) ++ [.int .i64 p.n]
def Pf.ok (p : Pf) : Prop := isA p.a ∧ (Lit.int .i64 p.n).wf = true
def Pr.fit (p : Pr) : Prop := p.d.ok ∧ p.s.ok
def vPf (p : Pf) : Value := .agg (pCs p.a p.n).toArray
theorem map_lit_inj {a b : List Int} (h : a.map (Lit.int .u8) = b.map (Lit.int .u8)) : a = b := by
  induction a generalizing b with
  | nil => cases b <;> simp_all
  | cons x a ih => cases b with
    | nil => simp at h
    | cons y b => simp at h; rw [h.1, ih h.2]
theorem Pf.lits_inj {p q : Pf} (hp : p.ok) (hq : q.ok) : p.lits = q.lits ↔ p = q := by
  refine ⟨fun h => ?_, fun h => h ▸ rfl⟩
  obtain ⟨a, n⟩ := p; obtain ⟨b, m⟩ := q
  obtain ⟨h1, h2⟩ := List.append_inj h (by simp [hp.1.1, hq.1.1])
  have h3 := map_lit_inj h1
  simp_all
theorem Pf.lits_len {p : Pf} (hp : p.ok) : p.lits.length = 17 := by simp [Pf.lits, hp.1.1]
theorem Pr.lits_inj {p q : Pr} (hp : p.fit) (hq : q.fit) : p.d.lits ++ p.s.lits = q.d.lits ++ q.s.lits ↔ p = q := by
  refine ⟨fun h => ?_, fun h => h ▸ rfl⟩
  obtain ⟨a, n⟩ := p; obtain ⟨b, m⟩ := q
  obtain ⟨h1, h2⟩ := List.append_inj h (by rw [Pf.lits_len hp.1, Pf.lits_len hq.1])
  have e1 := (Pf.lits_inj hp.1 hq.1).1 h1
  have e2 := (Pf.lits_inj hp.2 hq.2).1 h2
  cases e1; cases e2; rfl
theorem eq_deep {t : TypeId} (m : Nat) (hm : m ≤ 10000) (hk : Tryz.prog.keyTypeAt m t = true) {xs ys : List Value} {la lb : List Lit} {D D' : Nat} (fx : (Value.agg xs.toArray).formed Tryz.prog t = true) (fy : (Value.agg ys.toArray).formed Tryz.prog t = true)
    (hx : Tryz.prog.keyLits D t xs = some la) (hy : Tryz.prog.keyLits D' t ys = some lb) {c : Prop} [Decidable c] (hc : la = lb ↔ c) (w : World) : (Op.equalIn 10000 t (.agg xs.toArray) (.agg ys.toArray)).run Tryz.prog w = .ok (decide c) w := by
  obtain ⟨r, hr, hiff⟩ := run_equalIn_deep (10000 - m) m t hk w D D' _ _ la lb fx fy (by simpa [Value.cells] using hx) (by simpa [Value.cells] using hy)
  rw [show 10000 - m + m = 10000 by omega] at hr
  have e : r = decide c := by rw [Bool.eq_iff_iff, hiff, hc, decide_eq_true_eq]
  rw [hr, e]
theorem form_struct {t : TypeId} {fs : Array Field} {xs : List Value} (hu : Tryz.prog.underlying t = some (.struct fs)) {n : Nat} (hc : Tryz.prog.cellsOf t = n) (hl : xs.length = n) : (Value.agg xs.toArray).formed Tryz.prog t = true := by
  simp [Value.formed, hu, hc, hl]
theorem form_array {t e : TypeId} {k : Nat} {xs : List Value} (hu : Tryz.prog.underlying t = some (.array k e)) {n : Nat} (hc : Tryz.prog.cellsOf t = n) (hl : xs.length = n) : (Value.agg xs.toArray).formed Tryz.prog t = true := by
  simp [Value.formed, hu, hc, hl]
theorem equalIn_A {a b : List Int} (ha : isA a) (hb : isA b) (w : World) : (Op.equalIn 10000 42 (vA a) (vA b)).run Tryz.prog w = .ok (decide (a = b)) w :=
  eq_deep 2 (by decide) (by kernel_rfl) (form_array Tryz.underlying42 c42 (by rw [nums_length, ha.1])) (form_array Tryz.underlying42 c42 (by rw [nums_length, hb.1])) (klA ha 0) (klA hb 0) ⟨map_lit_inj, fun h => h ▸ rfl⟩ w
theorem equalIn_P {p q : Pf} (hp : p.ok) (hq : q.ok) (w : World) : (Op.equalIn 10000 55 (vPf p) (vPf q)).run Tryz.prog w = .ok (decide (p = q)) w :=
  eq_deep 3 (by decide) (by kernel_rfl) (form_struct Tryz.underlying55 c55 (pCs_len hp.1 _)) (form_struct Tryz.underlying55 c55 (pCs_len hq.1 _)) (klP hp.1 hp.2 0) (klP hq.1 hq.2 0) (Pf.lits_inj hp hq) w
section
variable {a b : List Int} {p q : Pf} {x y : Pr} (w : World)
theorem neq_A (ha : isA a) (hb : isA b) : (binOp .neq 42 (vA a) (vA b)).run Tryz.prog w = .ok (.bool (!decide (a = b))) w := by
  have := equalIn_A ha hb w
  unfold vA at *
  rw [run_neq_struct, this]; rfl
theorem neq_P (hp : p.ok) (hq : q.ok) : (binOp .neq 55 (vPf p) (vPf q)).run Tryz.prog w = .ok (.bool (!decide (p = q))) w := by
  have := equalIn_P hp hq w
  unfold vPf at *
  rw [run_neq_struct, this]; rfl
end
theorem guard42 : Tryz.prog.eqGuardType Tryz.prog.depth 42 = false := by kernel_rfl
theorem guard55 : Tryz.prog.eqGuardType Tryz.prog.depth 55 = false := by kernel_rfl
end Go.Proofs.YtnljjlaececnkaaGreatDoor
/-
  Which prefixes may be; what is in them. Condition: an address is sixteen bytes, a length a machine's number.
-/
namespace Go.Proofs.YtnljjlaececnkaaGreatDoor
open Go.RowKit
set_option linter.unusedVariables false
set_option linter.unusedSimpArgs false
theorem size55 : (Tryz.prog.info? 55).map (·.size) = some 17 := by kernel_rfl
theorem size57 : (Tryz.prog.info? 57).map (·.size) = some 34 := by kernel_rfl
/-- A prefix's box; an address's. -/
def BoxP (p : Pf) (g : Nat) (W : World) : Prop := W.heap[g]? = some (.cells (pCs p.a p.n).toArray 55 (0, 0))
def BoxA (a : List Int) (g : Nat) (W : World) : Prop := W.heap[g]? = some (.cells (nums .u8 a).toArray 42 (0, 0))
theorem pCs_get {p : Pf} (ha : isA p.a) : (pCs p.a p.n)[16]? = some (.int .i64 p.n) := by
  unfold pCs; rw [List.getElem?_append_right (by rw [nums_length, ha.1]; omega), nums_length, ha.1]; rfl
theorem pCs_at {p : Pf} {j : Nat} {v : Value} (h : (nums .u8 p.a)[j]? = some v) : (pCs p.a p.n)[j]? = some v := by
  unfold pCs; rw [List.getElem?_append_left (List.getElem?_eq_some_iff.1 h).1]; exact h
theorem row_load {W : World} {g : Nat} {cs : List Value} {t : TypeId} (h : W.heap[g]? = some (.cells cs.toArray t (0, 0))) : W.rangeAt g 0 cs := fun j v hj => by
  rw [Nat.zero_add, row_cell h]; simpa using hj
theorem quiet_load {P : Program} {C : World → Prop} {o : Oper} {a : Act} {w : World} {v : Value} (ty : TypeId) (x : Operand) (ho : o.op = .load ty x) {p : Addr} (hx : a.eval x = .pointer (some p)) (h : (loadVar ty p).run P w = .ok v w) : Oper.quietAt P o a C w v := by
  unfold Oper.quietAt execOp
  simp only [ho, hx, Instr.loadAt, Instr.sureAddr, Sem.run_bind, Sem.run_pure, Result.andThen_ok, h]
  exact ⟨rfl, rfl⟩
theorem quiet_eq {P : Program} {C : World → Prop} {o : Oper} {a : Act} {w : World} {r : Value} {op : BinOp} {t t' : TypeId} {x y : Operand} {xs ys : Array Value} (hop : op = .eql ∨ op = .neq) (ho : o.op = .binOp op t x y t') (hx : a.eval x = .agg xs) (hy : a.eval y = .agg ys)
    (hg : P.eqGuardType P.depth t = false) (h : (binOp op t (.agg xs) (.agg ys)).run P w = .ok r w) : Oper.quietAt P o a C w r := by
  unfold Oper.quietAt execOp
  simp only [ho, hx, hy, Sem.run_bind, run_eqGuard_agg _ op t x y xs ys hg, Sem.run_pure, Result.andThen_ok, h]
  exact ⟨rfl, rfl⟩
theorem BoxP.run {p : Pf} {g : Nat} {W : World} (h : BoxP p g W) (ha : isA p.a) :
    (loadVar 42 ⟨g, 0, none⟩).run Tryz.prog W = .ok (vA p.a) W ∧ W.cell? ⟨g, 16, none⟩ = some (.int .i64 p.n) ∧ (loadVar 55 ⟨g, 0, none⟩).run Tryz.prog W = .ok (vPf p) W := by
  have hr := row_load h
  refine ⟨?_, ?_, ?_⟩
  · exact run_loadVar_mid W g 0 42 (nums .u8 p.a) _ (fun j v hj => hr j v (pCs_at hj)) Tryz.underlying42 rfl (by rw [nums_length, ha.1]; exact size42)
  · have := hr 16 _ (pCs_get ha); simpa using this
  · exact run_loadVar_mid W g 0 55 (pCs p.a p.n) _ hr Tryz.underlying55 rfl (by rw [pCs_len ha]; exact size55)
theorem BoxA.run {a : List Int} {g : Nat} {W : World} (h : BoxA a g W) (ha : isA a) : (loadVar 42 ⟨g, 0, none⟩).run Tryz.prog W = .ok (vA a) W :=
  run_loadVar_mid W g 0 42 (nums .u8 a) _ (row_load h) Tryz.underlying42 rfl (by rw [nums_length, ha.1]; exact size42)
theorem bel_drew {B : Nat} {w w' : World} (h : Below B w w') : Below B w w'.drew := ⟨h.os, h.tape, h.output, h.size, h.block⟩
theorem lt_of_obj {W : World} {g : Nat} {o : Obj} (h : W.heap[g]? = some o) : g < W.heap.size := (Array.getElem?_eq_some_iff.1 h).1
theorem Below.box {B g : Nat} {w w' : World} {o : Obj} (h : w.heap[g]? = some o) (hb : Below B w w') (hg : g < B) : w'.heap[g]? = some o := (hb.block g hg).trans h
/-- These boxes lie there. -/
def AllB (W : World) : List (Nat × Obj) → Prop
  | [] => True
  | x :: l => W.heap[x.1]? = some x.2 ∧ AllB W l
theorem AllB.go {W W2 : World} (hb : Below W.heap.size W W2) : ∀ {l : List (Nat × Obj)}, AllB W l → AllB W2 l
  | [], _ => trivial
  | x :: l, ⟨h, r⟩ => ⟨Below.box h hb (lt_of_obj h), AllB.go hb r⟩
theorem AllB.same {w w2 : World} (hh : w2.heap = w.heap) : ∀ {l : List (Nat × Obj)}, AllB w l → AllB w2 l
  | [], _ => trivial
  | x :: l, ⟨h, r⟩ => ⟨by rw [hh]; exact h, AllB.same hh r⟩
/-- Nothing below N has turned since w; the boxes lie there. -/
def Bx (w : World) (N : Nat) (l : List (Nat × Obj)) (W : World) : Prop := Below N w W ∧ AllB W l ∧ N ≤ W.heap.size
theorem Bx.go {w W W2 : World} {N : Nat} {l : List (Nat × Obj)} (h : Bx w N l W) (hb : Below W.heap.size W W2) : Bx w N l W2 := ⟨h.1.trans (hb.mono h.2.2), AllB.go hb h.2.1, Nat.le_trans h.2.2 hb.size⟩
theorem box1 (w : World) (o : Obj) : (w.alloc o).heap[w.heap.size]? = some o := heap_alloc_new w o
theorem box21 (w : World) (o p : Obj) : ((w.alloc o).alloc p).heap[w.heap.size]? = some o := by rw [Below.heap_alloc _ _ _ (by simp)]; exact heap_alloc_new w o
theorem box22 (w : World) (o p : Obj) : ((w.alloc o).alloc p).heap[w.heap.size + 1]? = some p := heap_two w o p
def oP (p : Pf) : Obj := .cells (pCs p.a p.n).toArray 55 (0, 0)
def oA (a : List Int) : Obj := .cells (nums .u8 a).toArray 42 (0, 0)
def oPP (p : Pr) : Obj := .cells (pCs p.d.a p.d.n ++ pCs p.s.a p.s.n).toArray 57 (0, 0)
theorem Bx.start1 (w : World) (o : Obj) : Bx w w.heap.size [(w.heap.size, o)] (w.alloc o) := ⟨(Below.refl _ _).alloc (Nat.le_refl _) _, ⟨box1 w o, trivial⟩, by simp⟩
theorem Bx.drew {w W : World} {N : Nat} {l : List (Nat × Obj)} (h : Bx w N l W) : Bx w N l W.drew := ⟨bel_drew h.1, AllB.same (w := W) (w2 := W.drew) rfl h.2.1, h.2.2⟩
/-- A plain region whose operations are quiet in a class of worlds. -/
theorem wpList_of_quiet {P : Program} {ops : Array Oper} {C : World → Prop} {Q : Exit → Act → World → Prop} : ∀ {l : List Oper} {a : Act} {w : World}, C w → wpQuiet P ops C (fun a' => ∀ w', C w' → Q .normal a' w') l a → wpList P ops Q l a w
  | [], a, w, hC, h => h w hC
  | o :: rest, a, w, hC, h => by
    unfold wpList
    unfold wpQuiet at h
    split
    · rename_i hw
      rw [if_pos hw] at h
      exact .inl (Oper.wp_of_quiet hC (fun a' w' hw' hk => wpList_of_quiet hw' hk) h)
    · rename_i hw
      rw [if_neg hw] at h
      exact wpList_of_quiet hC h
theorem wpList_quiet {P : Program} {ops : Array Oper} {C : World → Prop} {Q : Exit → Act → World → Prop} {l : List Oper} {a : Act} {w : World} (n : Nat) (hn : l.length = n) (hC : C w) (h : wpQuiet P ops C (fun a' => ∀ w', C w' → Q .normal a' w') l a) : wpList P ops Q l a w := wpList_of_quiet hC h
def errP (b : Bool) : Value := .int .i64 (if b then 0 else 21)
set_option maxRecDepth 100000 in
set_option maxHeartbeats 1600000 in
/-- Check, at a prefix whose length is of the right size. -/
theorem check_mid {w : World} {p : Pf} (hp : p.ok) (h0 : 0 ≤ p.n) (h1 : p.n ≤ 128) :
    Calls Tryz.prog 38 #[vPf p] w fun e w' => e = .returned (errP (chk p)) ∧ Below w.heap.size w w' := by
  have ha := hp.1
  have e1 : decide (p.n < 0) = false := by simp; omega
  have e2 : decide (128 < p.n) = false := by simp; omega
  have hc : chk p = decide (msk p.a p.n = p.a) := by simp [chk, h0, h1]
  have hne := fun W => neq_A W (isA_msk ha p.n) ha
  obtain ⟨b, hb⟩ : ∃ b : Bool, decide (msk p.a p.n = p.a) = b := ⟨_, rfl⟩
  rw [hb] at hc hne
  rw [hc]
  clear hc hb
  replace hp := Lib.hid hp
  replace ha := Lib.hid ha
  unfold vPf
  go_enter Tryz.func38, Tryz.ntmps38
  go_wp2_with fail
  refine wp_region_C (C := fun W => Below w.heap.size w W ∧ BoxP p w.heap.size W) (by kernel_rfl) (by kernel_rfl) (⟨bel_drew ((Below.refl _ _).alloc (Nat.le_refl _) _), heap_alloc_new w _⟩) ?_
  refine wpQuiet_hide ?_
  intro lq hlq
  refine wpQuiet_step_h hlq ?_
  clear hlq lq
  intro K lq hlq hK
  refine wanted_go (by rfl) ?_
  refine ⟨?_, fun W hW => ?_, ?_⟩
  rotate_left
  · obtain ⟨q1, q2, q3⟩ := hW.2.run ha.out
    go_simp
    with_reducible rfl
  refine hK _ ?_
  clear hK K
  (try simp only [Act.put, List.setIfInBounds_toArray, List.set_cons_zero, List.set_cons_succ])
  refine wpQuiet_step_h hlq ?_
  clear hlq lq
  intro K lq hlq hK
  refine wanted_go (by rfl) ?_
  refine ⟨?_, fun W hW => ?_, ?_⟩
  rotate_left
  · obtain ⟨q1, q2, q3⟩ := hW.2.run ha.out
    go_simp
    with_reducible rfl
  refine hK _ ?_
  clear hK K
  (try simp only [Act.put, List.setIfInBounds_toArray, List.set_cons_zero, List.set_cons_succ])
  refine wpQuiet_step_h hlq ?_
  clear hlq lq
  intro K lq hlq hK
  refine wanted_go (by rfl) ?_
  refine ⟨?_, fun W hW => ?_, ?_⟩
  rotate_left
  · obtain ⟨q1, q2, q3⟩ := hW.2.run ha.out
    go_simp
    with_reducible rfl
  refine hK _ ?_
  clear hK K
  (try simp only [Act.put, List.setIfInBounds_toArray, List.set_cons_zero, List.set_cons_succ])
  refine wpQuiet_step_h hlq ?_
  clear hlq lq
  intro K lq hlq hK
  refine wanted_go (by rfl) ?_
  refine ⟨?_, fun W hW => ?_, ?_⟩
  rotate_left
  · obtain ⟨q1, q2, q3⟩ := hW.2.run ha.out
    go_simp
    with_reducible rfl
  refine hK _ ?_
  clear hK K
  (try simp only [Act.put, List.setIfInBounds_toArray, List.set_cons_zero, List.set_cons_succ])
  refine wpQuiet_step_h hlq ?_
  clear hlq lq
  intro K lq hlq hK
  refine wanted_go (by rfl) ?_
  refine ⟨?_, fun W hW => ?_, ?_⟩
  rotate_left
  · obtain ⟨q1, q2, q3⟩ := hW.2.run ha.out
    go_simp
    with_reducible rfl
  refine hK _ ?_
  clear hK K
  (try simp only [Act.put, List.setIfInBounds_toArray, List.set_cons_zero, List.set_cons_succ])
  refine wpQuiet_step_h hlq ?_
  clear hlq lq
  intro K lq hlq hK
  refine wanted_go (by rfl) ?_
  refine ⟨?_, fun W hW => ?_, ?_⟩
  rotate_left
  · obtain ⟨q1, q2, q3⟩ := hW.2.run ha.out
    go_simp
    with_reducible rfl
  refine hK _ ?_
  clear hK K
  (try simp only [Act.put, List.setIfInBounds_toArray, List.set_cons_zero, List.set_cons_succ])
  refine wpQuiet_step_h hlq ?_
  clear hlq lq
  intro K lq hlq hK
  refine wanted_go (by rfl) ?_
  refine ⟨?_, fun W hW => ?_, ?_⟩
  rotate_left
  · obtain ⟨q1, q2, q3⟩ := hW.2.run ha.out
    go_simp
    with_reducible rfl
  refine hK _ ?_
  clear hK K
  (try simp only [Act.put, List.setIfInBounds_toArray, List.set_cons_zero, List.set_cons_succ])
  refine wpQuiet_step_h hlq ?_
  clear hlq lq
  intro K lq hlq hK
  refine wanted_go (by rfl) ?_
  refine ⟨?_, fun W hW => ?_, ?_⟩
  rotate_left
  · obtain ⟨q1, q2, q3⟩ := hW.2.run ha.out
    go_simp
    with_reducible rfl
  refine hK _ ?_
  clear hK K
  (try simp only [Act.put, List.setIfInBounds_toArray, List.set_cons_zero, List.set_cons_succ])
  refine wpQuiet_step_h hlq ?_
  clear hlq lq
  intro K lq hlq hK
  refine wanted_go (by rfl) ?_
  refine ⟨?_, fun W hW => ?_, ?_⟩
  rotate_left
  · obtain ⟨q1, q2, q3⟩ := hW.2.run ha.out
    go_simp
    with_reducible rfl
  refine hK _ ?_
  clear hK K
  (try simp only [Act.put, List.setIfInBounds_toArray, List.set_cons_zero, List.set_cons_succ])
  refine wpQuiet_step_h hlq ?_
  clear hlq lq
  intro K lq hlq hK
  refine wanted_go (by rfl) ?_
  refine ⟨?_, fun W hW => ?_, ?_⟩
  rotate_left
  · obtain ⟨q1, q2, q3⟩ := hW.2.run ha.out
    go_simp
    with_reducible rfl
  refine hK _ ?_
  clear hK K
  (try simp only [Act.put, List.setIfInBounds_toArray, List.set_cons_zero, List.set_cons_succ])
  refine wpQuiet_step_h hlq ?_
  clear hlq lq
  intro K lq hlq hK
  refine wanted_go (by rfl) ?_
  refine ⟨vA p.a, fun W hW => ?_, ?_⟩
  · obtain ⟨q1, q2, q3⟩ := hW.2.run ha.out
    exact quiet_load 42 _ rfl rfl q1
  refine hK _ ?_
  clear hK K
  (try simp only [Act.put, List.setIfInBounds_toArray, List.set_cons_zero, List.set_cons_succ])
  refine wpQuiet_step_h hlq ?_
  clear hlq lq
  intro K lq hlq hK
  refine wanted_go (by rfl) ?_
  refine ⟨?_, fun W hW => ?_, ?_⟩
  rotate_left
  · obtain ⟨q1, q2, q3⟩ := hW.2.run ha.out
    go_simp
    with_reducible rfl
  refine hK _ ?_
  clear hK K
  (try simp only [Act.put, List.setIfInBounds_toArray, List.set_cons_zero, List.set_cons_succ])
  refine wpQuiet_step_h hlq ?_
  clear hlq lq
  intro K lq hlq hK
  refine wanted_go (by rfl) ?_
  refine ⟨?_, fun W hW => ?_, ?_⟩
  rotate_left
  · obtain ⟨q1, q2, q3⟩ := hW.2.run ha.out
    go_simp
    with_reducible rfl
  refine hK _ ?_
  clear hK K
  (try simp only [Act.put, List.setIfInBounds_toArray, List.set_cons_zero, List.set_cons_succ])
  refine wpQuiet_step_h hlq ?_
  clear hlq lq
  intro K lq hlq hK
  refine wanted_go (by rfl) ?_
  refine ⟨vA (msk p.a p.n), fun W hW => ?_, ?_⟩
  · go_simp
    refine (masked_any ha.out p.n h0 h1).mono fun e W2 hc2 => ⟨hc2.1, hW.1.trans (hc2.2.mono hW.1.size), Below.box hW.2 hc2.2 (lt_of_obj hW.2)⟩
  refine hK _ ?_
  clear hK K
  (try simp only [Act.put, List.setIfInBounds_toArray, List.set_cons_zero, List.set_cons_succ])
  refine wpQuiet_step_h hlq ?_
  clear hlq lq
  intro K lq hlq hK
  refine wanted_go (by rfl) ?_
  refine ⟨?_, fun W hW => ?_, ?_⟩
  rotate_left
  · obtain ⟨q1, q2, q3⟩ := hW.2.run ha.out
    go_simp
    with_reducible rfl
  refine hK _ ?_
  clear hK K
  (try simp only [Act.put, List.setIfInBounds_toArray, List.set_cons_zero, List.set_cons_succ])
  refine wpQuiet_step_h hlq ?_
  clear hlq lq
  intro K lq hlq hK
  refine wanted_go (by rfl) ?_
  refine ⟨vA p.a, fun W hW => ?_, ?_⟩
  · obtain ⟨q1, q2, q3⟩ := hW.2.run ha.out
    exact quiet_load 42 _ rfl rfl q1
  refine hK _ ?_
  clear hK K
  (try simp only [Act.put, List.setIfInBounds_toArray, List.set_cons_zero, List.set_cons_succ])
  refine wpQuiet_step_h hlq ?_
  clear hlq lq
  intro K lq hlq hK
  refine wanted_go (by rfl) ?_
  refine ⟨.bool (!b), fun W hW => ?_, ?_⟩
  · obtain ⟨q1, q2, q3⟩ := hW.2.run ha.out
    exact quiet_eq (.inr rfl) (by rfl) (by rfl) (by rfl) guard42 (hne W)
  refine hK _ ?_
  clear hK K
  (try simp only [Act.put, List.setIfInBounds_toArray, List.set_cons_zero, List.set_cons_succ])
  refine wpQuiet_step_h hlq ?_
  clear hlq lq
  intro K lq hlq hK
  refine wanted_go (by rfl) ?_
  refine ⟨?_, fun W hW => ?_, ?_⟩
  rotate_left
  · obtain ⟨q1, q2, q3⟩ := hW.2.run ha.out
    go_simp
    with_reducible rfl
  refine hK _ ?_
  clear hK K
  (try simp only [Act.put, List.setIfInBounds_toArray, List.set_cons_zero, List.set_cons_succ])
  refine wpQuiet_nil_h hlq ?_
  clear hlq lq
  intro w' hC'
  cases b
  · go_wp2_with fail
    go_ret
    exact ⟨rfl, hC'.1⟩
  · go_wp2_with fail
    go_ret
    exact ⟨rfl, hC'.1⟩
set_option maxRecDepth 100000 in
set_option maxHeartbeats 1600000 in
theorem check_low {w : World} {p : Pf} (hp : p.ok) (h0 : p.n < 0) :
    Calls Tryz.prog 38 #[vPf p] w fun e w' => e = .returned (errP (chk p)) ∧ Below w.heap.size w w' := by
  have ha := hp.1
  have e1 : decide (p.n < 0) = true := by simp; omega
  have hc : chk p = false := by simp [chk]; omega
  rw [hc]
  clear hc
  replace hp := Lib.hid hp
  replace ha := Lib.hid ha
  unfold vPf
  go_enter Tryz.func38, Tryz.ntmps38
  go_wp2_with fail
  refine wp_region_C (C := fun W => Below w.heap.size w W ∧ BoxP p w.heap.size W) (by kernel_rfl) (by kernel_rfl) (⟨bel_drew ((Below.refl _ _).alloc (Nat.le_refl _) _), heap_alloc_new w _⟩) ?_
  refine wpQuiet_hide ?_
  intro lq hlq
  refine wpQuiet_step_h hlq ?_
  clear hlq lq
  intro K lq hlq hK
  refine wanted_go (by rfl) ?_
  refine ⟨?_, fun W hW => ?_, ?_⟩
  rotate_left
  · obtain ⟨q1, q2, q3⟩ := hW.2.run ha.out
    go_simp
    with_reducible rfl
  refine hK _ ?_
  clear hK K
  (try simp only [Act.put, List.setIfInBounds_toArray, List.set_cons_zero, List.set_cons_succ])
  refine wpQuiet_step_h hlq ?_
  clear hlq lq
  intro K lq hlq hK
  refine wanted_go (by rfl) ?_
  refine ⟨?_, fun W hW => ?_, ?_⟩
  rotate_left
  · obtain ⟨q1, q2, q3⟩ := hW.2.run ha.out
    go_simp
    with_reducible rfl
  refine hK _ ?_
  clear hK K
  (try simp only [Act.put, List.setIfInBounds_toArray, List.set_cons_zero, List.set_cons_succ])
  refine wpQuiet_step_h hlq ?_
  clear hlq lq
  intro K lq hlq hK
  refine wanted_go (by rfl) ?_
  refine ⟨?_, fun W hW => ?_, ?_⟩
  rotate_left
  · obtain ⟨q1, q2, q3⟩ := hW.2.run ha.out
    go_simp
    with_reducible rfl
  refine hK _ ?_
  clear hK K
  (try simp only [Act.put, List.setIfInBounds_toArray, List.set_cons_zero, List.set_cons_succ])
  refine wpQuiet_step_h hlq ?_
  clear hlq lq
  intro K lq hlq hK
  refine wanted_go (by rfl) ?_
  refine ⟨?_, fun W hW => ?_, ?_⟩
  rotate_left
  · obtain ⟨q1, q2, q3⟩ := hW.2.run ha.out
    go_simp
    with_reducible rfl
  refine hK _ ?_
  clear hK K
  (try simp only [Act.put, List.setIfInBounds_toArray, List.set_cons_zero, List.set_cons_succ])
  refine wpQuiet_step_h hlq ?_
  clear hlq lq
  intro K lq hlq hK
  go_simp
  refine hK _ ?_
  clear hK K
  refine wpQuiet_step_h hlq ?_
  clear hlq lq
  intro K lq hlq hK
  go_simp
  refine hK _ ?_
  clear hK K
  refine wpQuiet_step_h hlq ?_
  clear hlq lq
  intro K lq hlq hK
  go_simp
  refine hK _ ?_
  clear hK K
  refine wpQuiet_step_h hlq ?_
  clear hlq lq
  intro K lq hlq hK
  refine wanted_go (by rfl) ?_
  refine ⟨?_, fun W hW => ?_, ?_⟩
  rotate_left
  · obtain ⟨q1, q2, q3⟩ := hW.2.run ha.out
    go_simp
    with_reducible rfl
  refine hK _ ?_
  clear hK K
  (try simp only [Act.put, List.setIfInBounds_toArray, List.set_cons_zero, List.set_cons_succ])
  refine wpQuiet_step_h hlq ?_
  clear hlq lq
  intro K lq hlq hK
  refine wanted_go (by rfl) ?_
  refine ⟨?_, fun W hW => ?_, ?_⟩
  rotate_left
  · obtain ⟨q1, q2, q3⟩ := hW.2.run ha.out
    go_simp
    with_reducible rfl
  refine hK _ ?_
  clear hK K
  (try simp only [Act.put, List.setIfInBounds_toArray, List.set_cons_zero, List.set_cons_succ])
  refine wpQuiet_step_h hlq ?_
  clear hlq lq
  intro K lq hlq hK
  go_simp
  refine hK _ ?_
  clear hK K
  refine wpQuiet_step_h hlq ?_
  clear hlq lq
  intro K lq hlq hK
  go_simp
  refine hK _ ?_
  clear hK K
  refine wpQuiet_step_h hlq ?_
  clear hlq lq
  intro K lq hlq hK
  go_simp
  refine hK _ ?_
  clear hK K
  refine wpQuiet_step_h hlq ?_
  clear hlq lq
  intro K lq hlq hK
  go_simp
  refine hK _ ?_
  clear hK K
  refine wpQuiet_step_h hlq ?_
  clear hlq lq
  intro K lq hlq hK
  go_simp
  refine hK _ ?_
  clear hK K
  refine wpQuiet_step_h hlq ?_
  clear hlq lq
  intro K lq hlq hK
  go_simp
  refine hK _ ?_
  clear hK K
  refine wpQuiet_step_h hlq ?_
  clear hlq lq
  intro K lq hlq hK
  go_simp
  refine hK _ ?_
  clear hK K
  refine wpQuiet_step_h hlq ?_
  clear hlq lq
  intro K lq hlq hK
  go_simp
  refine hK _ ?_
  clear hK K
  refine wpQuiet_step_h hlq ?_
  clear hlq lq
  intro K lq hlq hK
  refine wanted_go (by rfl) ?_
  refine ⟨?_, fun W hW => ?_, ?_⟩
  rotate_left
  · obtain ⟨q1, q2, q3⟩ := hW.2.run ha.out
    go_simp
    with_reducible rfl
  refine hK _ ?_
  clear hK K
  (try simp only [Act.put, List.setIfInBounds_toArray, List.set_cons_zero, List.set_cons_succ])
  refine wpQuiet_nil_h hlq ?_
  clear hlq lq
  intro w' hC'
  go_wp2_with fail
  go_ret
  exact ⟨rfl, hC'.1⟩
set_option maxRecDepth 100000 in
set_option maxHeartbeats 1600000 in
theorem check_high {w : World} {p : Pf} (hp : p.ok) (h1 : 128 < p.n) :
    Calls Tryz.prog 38 #[vPf p] w fun e w' => e = .returned (errP (chk p)) ∧ Below w.heap.size w w' := by
  have ha := hp.1
  have e1 : decide (p.n < 0) = false := by simp; omega
  have e2 : decide (128 < p.n) = true := by simp; omega
  have hc : chk p = false := by simp [chk]; omega
  rw [hc]
  clear hc
  replace hp := Lib.hid hp
  replace ha := Lib.hid ha
  unfold vPf
  go_enter Tryz.func38, Tryz.ntmps38
  go_wp2_with fail
  refine wp_region_C (C := fun W => Below w.heap.size w W ∧ BoxP p w.heap.size W) (by kernel_rfl) (by kernel_rfl) (⟨bel_drew ((Below.refl _ _).alloc (Nat.le_refl _) _), heap_alloc_new w _⟩) ?_
  refine wpQuiet_hide ?_
  intro lq hlq
  refine wpQuiet_step_h hlq ?_
  clear hlq lq
  intro K lq hlq hK
  refine wanted_go (by rfl) ?_
  refine ⟨?_, fun W hW => ?_, ?_⟩
  rotate_left
  · obtain ⟨q1, q2, q3⟩ := hW.2.run ha.out
    go_simp
    with_reducible rfl
  refine hK _ ?_
  clear hK K
  (try simp only [Act.put, List.setIfInBounds_toArray, List.set_cons_zero, List.set_cons_succ])
  refine wpQuiet_step_h hlq ?_
  clear hlq lq
  intro K lq hlq hK
  refine wanted_go (by rfl) ?_
  refine ⟨?_, fun W hW => ?_, ?_⟩
  rotate_left
  · obtain ⟨q1, q2, q3⟩ := hW.2.run ha.out
    go_simp
    with_reducible rfl
  refine hK _ ?_
  clear hK K
  (try simp only [Act.put, List.setIfInBounds_toArray, List.set_cons_zero, List.set_cons_succ])
  refine wpQuiet_step_h hlq ?_
  clear hlq lq
  intro K lq hlq hK
  refine wanted_go (by rfl) ?_
  refine ⟨?_, fun W hW => ?_, ?_⟩
  rotate_left
  · obtain ⟨q1, q2, q3⟩ := hW.2.run ha.out
    go_simp
    with_reducible rfl
  refine hK _ ?_
  clear hK K
  (try simp only [Act.put, List.setIfInBounds_toArray, List.set_cons_zero, List.set_cons_succ])
  refine wpQuiet_step_h hlq ?_
  clear hlq lq
  intro K lq hlq hK
  refine wanted_go (by rfl) ?_
  refine ⟨?_, fun W hW => ?_, ?_⟩
  rotate_left
  · obtain ⟨q1, q2, q3⟩ := hW.2.run ha.out
    go_simp
    with_reducible rfl
  refine hK _ ?_
  clear hK K
  (try simp only [Act.put, List.setIfInBounds_toArray, List.set_cons_zero, List.set_cons_succ])
  refine wpQuiet_step_h hlq ?_
  clear hlq lq
  intro K lq hlq hK
  refine wanted_go (by rfl) ?_
  refine ⟨?_, fun W hW => ?_, ?_⟩
  rotate_left
  · obtain ⟨q1, q2, q3⟩ := hW.2.run ha.out
    go_simp
    with_reducible rfl
  refine hK _ ?_
  clear hK K
  (try simp only [Act.put, List.setIfInBounds_toArray, List.set_cons_zero, List.set_cons_succ])
  refine wpQuiet_step_h hlq ?_
  clear hlq lq
  intro K lq hlq hK
  refine wanted_go (by rfl) ?_
  refine ⟨?_, fun W hW => ?_, ?_⟩
  rotate_left
  · obtain ⟨q1, q2, q3⟩ := hW.2.run ha.out
    go_simp
    with_reducible rfl
  refine hK _ ?_
  clear hK K
  (try simp only [Act.put, List.setIfInBounds_toArray, List.set_cons_zero, List.set_cons_succ])
  refine wpQuiet_step_h hlq ?_
  clear hlq lq
  intro K lq hlq hK
  refine wanted_go (by rfl) ?_
  refine ⟨?_, fun W hW => ?_, ?_⟩
  rotate_left
  · obtain ⟨q1, q2, q3⟩ := hW.2.run ha.out
    go_simp
    with_reducible rfl
  refine hK _ ?_
  clear hK K
  (try simp only [Act.put, List.setIfInBounds_toArray, List.set_cons_zero, List.set_cons_succ])
  refine wpQuiet_step_h hlq ?_
  clear hlq lq
  intro K lq hlq hK
  refine wanted_go (by rfl) ?_
  refine ⟨?_, fun W hW => ?_, ?_⟩
  rotate_left
  · obtain ⟨q1, q2, q3⟩ := hW.2.run ha.out
    go_simp
    with_reducible rfl
  refine hK _ ?_
  clear hK K
  (try simp only [Act.put, List.setIfInBounds_toArray, List.set_cons_zero, List.set_cons_succ])
  refine wpQuiet_step_h hlq ?_
  clear hlq lq
  intro K lq hlq hK
  refine wanted_go (by rfl) ?_
  refine ⟨?_, fun W hW => ?_, ?_⟩
  rotate_left
  · obtain ⟨q1, q2, q3⟩ := hW.2.run ha.out
    go_simp
    with_reducible rfl
  refine hK _ ?_
  clear hK K
  (try simp only [Act.put, List.setIfInBounds_toArray, List.set_cons_zero, List.set_cons_succ])
  refine wpQuiet_step_h hlq ?_
  clear hlq lq
  intro K lq hlq hK
  go_simp
  refine hK _ ?_
  clear hK K
  refine wpQuiet_step_h hlq ?_
  clear hlq lq
  intro K lq hlq hK
  go_simp
  refine hK _ ?_
  clear hK K
  refine wpQuiet_step_h hlq ?_
  clear hlq lq
  intro K lq hlq hK
  go_simp
  refine hK _ ?_
  clear hK K
  refine wpQuiet_step_h hlq ?_
  clear hlq lq
  intro K lq hlq hK
  go_simp
  refine hK _ ?_
  clear hK K
  refine wpQuiet_step_h hlq ?_
  clear hlq lq
  intro K lq hlq hK
  go_simp
  refine hK _ ?_
  clear hK K
  refine wpQuiet_step_h hlq ?_
  clear hlq lq
  intro K lq hlq hK
  go_simp
  refine hK _ ?_
  clear hK K
  refine wpQuiet_step_h hlq ?_
  clear hlq lq
  intro K lq hlq hK
  go_simp
  refine hK _ ?_
  clear hK K
  refine wpQuiet_step_h hlq ?_
  clear hlq lq
  intro K lq hlq hK
  go_simp
  refine hK _ ?_
  clear hK K
  refine wpQuiet_step_h hlq ?_
  clear hlq lq
  intro K lq hlq hK
  refine wanted_go (by rfl) ?_
  refine ⟨?_, fun W hW => ?_, ?_⟩
  rotate_left
  · obtain ⟨q1, q2, q3⟩ := hW.2.run ha.out
    go_simp
    with_reducible rfl
  refine hK _ ?_
  clear hK K
  (try simp only [Act.put, List.setIfInBounds_toArray, List.set_cons_zero, List.set_cons_succ])
  refine wpQuiet_nil_h hlq ?_
  clear hlq lq
  intro w' hC'
  go_wp2_with fail
  go_ret
  exact ⟨rfl, hC'.1⟩
/-- Check. -/
theorem check_any {w : World} {p : Pf} (hp : p.ok) : Calls Tryz.prog 38 #[vPf p] w fun e w' => e = .returned (errP (chk p)) ∧ Below w.heap.size w w' := by
  by_cases h0 : p.n < 0
  · exact check_low hp h0
  · by_cases h1 : 128 < p.n
    · exact check_high hp h1
    · exact check_mid hp (by omega) (by omega)
end Go.Proofs.YtnljjlaececnkaaGreatDoor
/-
  Which prefix covers which; families; the prefix of an address's first bits. Condition: an address is sixteen bytes, a length a machine's number.
-/
namespace Go.Proofs.YtnljjlaececnkaaGreatDoor
open Go.RowKit
set_option linter.unusedVariables false
set_option linter.unusedSimpArgs false
/-- The beginning of a plain region is quiet. -/
theorem wpList_quiet_take {P : Program} {ops : Array Oper} {C : World → Prop} {Q : Exit → Act → World → Prop} : ∀ (n k : Nat) {l : List Oper} {a : Act} {w : World}, l.length = n → C w → wpQuiet P ops C (fun a' => ∀ w', C w' → wpList P ops Q (l.drop k) a' w') (l.take k) a → wpList P ops Q l a w
  | _, 0, l, a, w, _, hC, h => by simpa using h w hC
  | _, k + 1, [], a, w, _, hC, h => by simpa using h w hC
  | _, k + 1, o :: rest, a, w, hn, hC, h => by
    unfold wpList
    rw [List.take_succ_cons] at h
    unfold wpQuiet at h
    split
    · rename_i hw
      rw [if_pos hw] at h
      exact .inl (Oper.wp_of_quiet hC (fun a' w' hw' hk => wpList_quiet_take rest.length k rfl hw' hk) h)
    · rename_i hw
      rw [if_neg hw] at h
      exact wpList_quiet_take rest.length k rfl hC h
theorem str_bytes {l m : List Int} (hl : ∀ x ∈ l, 0 ≤ x ∧ x < 256) (hm : ∀ x ∈ m, 0 ≤ x ∧ x < 256) (h : l.map (fun n => UInt8.ofNat n.toNat) = m.map (fun n => UInt8.ofNat n.toNat)) : l = m := by
  induction l generalizing m with
  | nil => cases m <;> simp_all
  | cons x l ih => cases m with
    | nil => simp at h
    | cons y m =>
      simp only [List.map_cons, List.cons.injEq] at h
      have h1 := congrArg UInt8.toNat h.1
      have hx := hl x (by simp)
      have hy := hm y (by simp)
      simp only [UInt8.toNat_ofNat'] at h1
      rw [Nat.mod_eq_of_lt (by omega), Nat.mod_eq_of_lt (by omega)] at h1
      rw [ih (fun z hz => hl z (by simp [hz])) (fun z hz => hm z (by simp [hz])) h.2, show x = y by omega]
theorem fam_str {a : List Int} (ha : isA a) : ((strOfNums (a.take 12)).toList == [0, 0, 0, 0, 0, 0, 0, 0, 0, 0, 255, 255]) = decide (a.take 12 = mapd) := by
  rw [ByteArray.toList_eq, strOfNums_data, Bool.eq_iff_iff, beq_iff_eq, decide_eq_true_eq]
  constructor
  · intro h
    exact str_bytes (fun x hx => ha.2 x (List.mem_of_mem_take hx)) (by decide) h
  · intro h; rw [h]; rfl
set_option maxRecDepth 100000 in
set_option maxHeartbeats 400000 in
/-- Family. -/
theorem fam_any {w : World} {a : List Int} (ha : isA a) : Calls Tryz.prog 32 #[vA a] w fun e w' => e = .returned (.int .i64 (fam a)) ∧ Below w.heap.size w w' := by
  have hcv : (convert 150 9 (.slice (some ⟨w.heap.size, 0, none⟩) 12 16)).run Tryz.prog (w.alloc (.cells (nums .u8 a).toArray 42)) = .ok (.string (strOfNums (a.take 12))) (w.alloc (.cells (nums .u8 a).toArray 42)) := by
    refine run_convert_bytes_arg _ 150 5 Tryz.underlying150 Tryz.underlying5 _ 0 12 16 (a.take 12) (by rw [List.length_take, ha.1]; rfl) (fun i hi => ?_) 9 Tryz.underlying9
    rw [Nat.zero_add, row_cell (box1 w (.cells (nums .u8 a).toArray 42)), List.getElem?_toArray]
    obtain ⟨x, hx⟩ := get_some (l := a) (j := i) (by rw [ha.1]; omega)
    rw [nums_get hx, List.getD_eq_getElem?_getD, List.getElem?_take, if_pos hi, hx]; rfl
  have hcmp := fam_str ha
  have bel : Below w.heap.size w (w.alloc (.cells (nums .u8 a).toArray 42)) := (Below.refl _ _).alloc (Nat.le_refl _) _
  obtain ⟨b, hb⟩ : ∃ b, decide (a.take 12 = mapd) = b := ⟨_, rfl⟩
  rw [hb] at hcmp
  have hf : fam a = if b then 4 else 6 := by unfold fam; rw [← hb]; simp
  rw [hf]
  clear hb hf
  replace ha := Lib.hid ha
  unfold vA
  go_enter Tryz.func32, Tryz.ntmps32
  cases b
  · go_wp2_with fail
    go_ret
    exact ⟨rfl, bel⟩
  · go_wp2_with fail
    go_ret
    exact ⟨rfl, bel⟩
set_option maxRecDepth 100000 in
set_option maxHeartbeats 400000 in
/-- PrefixFamily. -/
theorem pfam_any {w : World} {p : Pf} (hp : p.ok) : Calls Tryz.prog 54 #[vPf p] w fun e w' => e = .returned (.int .i64 (pfam p)) ∧ Below w.heap.size w w' := by
  obtain ⟨b, hb⟩ : ∃ b, decide (p.n < 96) = b := ⟨_, rfl⟩
  have hc : (w.alloc (oP p)).cell? ⟨w.heap.size, 16, none⟩ = some (.int .i64 p.n) := (BoxP.run (box1 w (oP p)) hp.1).2.1
  have bel : Below w.heap.size w (w.alloc (oP p)) := (Below.refl _ _).alloc (Nat.le_refl _) _
  unfold oP at hc
  unfold vPf
  cases b
  · have hf : pfam p = fam p.a := by unfold pfam; rw [if_neg (of_decide_eq_false hb)]
    rw [hf]
    clear hf
    replace hp := Lib.hid hp
    go_enter Tryz.func54, Tryz.ntmps54
    go_wp2_with (refine wpList_quiet (C := Bx w w.heap.size [(w.heap.size, oP p)]) 4 (by rfl) (Bx.start1 w (oP p)) ?_)
    refine wpQuiet_hide ?_
    intro lq hlq
    refine wpQuiet_step_h hlq ?_
    clear hlq lq
    intro K lq hlq hK
    refine wanted_go (by rfl) ?_
    refine ⟨?_, fun W hW => ?_, ?_⟩
    rotate_left
    · obtain ⟨q1, q2, q3⟩ := BoxP.run hW.2.1.1 hp.out.1
      go_simp
      with_reducible rfl
    refine hK _ ?_
    clear hK K
    (try simp only [Act.put, List.setIfInBounds_toArray, List.set_cons_zero, List.set_cons_succ])
    refine wpQuiet_step_h hlq ?_
    clear hlq lq
    intro K lq hlq hK
    refine wanted_go (by rfl) ?_
    refine ⟨vA p.a, fun W hW => ?_, ?_⟩
    · obtain ⟨q1, q2, q3⟩ := BoxP.run hW.2.1.1 hp.out.1
      exact quiet_load 42 _ rfl rfl q1
    refine hK _ ?_
    clear hK K
    (try simp only [Act.put, List.setIfInBounds_toArray, List.set_cons_zero, List.set_cons_succ])
    refine wpQuiet_step_h hlq ?_
    clear hlq lq
    intro K lq hlq hK
    refine wanted_go (by rfl) ?_
    refine ⟨.int .i64 (fam p.a), fun W hW => ?_, ?_⟩
    · go_simp
      refine (fam_any hp.out.1).mono fun e W2 hc2 => ⟨hc2.1, hW.go hc2.2⟩
    refine hK _ ?_
    clear hK K
    (try simp only [Act.put, List.setIfInBounds_toArray, List.set_cons_zero, List.set_cons_succ])
    refine wpQuiet_step_h hlq ?_
    clear hlq lq
    intro K lq hlq hK
    refine wanted_go (by rfl) ?_
    refine ⟨?_, fun W hW => ?_, ?_⟩
    rotate_left
    · obtain ⟨q1, q2, q3⟩ := BoxP.run hW.2.1.1 hp.out.1
      go_simp
      with_reducible rfl
    refine hK _ ?_
    clear hK K
    (try simp only [Act.put, List.setIfInBounds_toArray, List.set_cons_zero, List.set_cons_succ])
    refine wpQuiet_nil_h hlq ?_
    clear hlq lq
    intro w' hC'
    go_wp2_with fail
    go_ret
    exact ⟨rfl, hC'.1⟩
  · have hf : pfam p = 6 := by unfold pfam; rw [if_pos (of_decide_eq_true hb)]
    rw [hf]
    clear hf
    replace hp := Lib.hid hp
    go_enter Tryz.func54, Tryz.ntmps54
    go_wp2_with fail
    go_ret
    exact ⟨rfl, bel⟩
end Go.Proofs.YtnljjlaececnkaaGreatDoor
/-
  The prefix of all addresses, of an address's first bits; pairs: which may be, which match. Condition: an address is sixteen bytes, a length a machine's number.
-/
namespace Go.Proofs.YtnljjlaececnkaaGreatDoor
open Go.RowKit
set_option linter.unusedVariables false
set_option linter.unusedSimpArgs false
theorem pp_at1 {p : Pr} {j : Nat} {v : Value} (h : (pCs p.d.a p.d.n)[j]? = some v) : (pCs p.d.a p.d.n ++ pCs p.s.a p.s.n)[j]? = some v := by
  rw [List.getElem?_append_left (List.getElem?_eq_some_iff.1 h).1]; exact h
theorem pp_at2 {p : Pr} (hp : p.fit) {j : Nat} {v : Value} (h : (pCs p.s.a p.s.n)[j]? = some v) : (pCs p.d.a p.d.n ++ pCs p.s.a p.s.n)[17 + j]? = some v := by
  have hl := pCs_len hp.1.1 p.d.n
  rw [List.getElem?_append_right (by omega), hl, Nat.add_sub_cancel_left]; exact h
theorem BoxPP.run {p : Pr} {g : Nat} {W : World} (h : W.heap[g]? = some (oPP p)) (hp : p.fit) :
    (loadVar 55 ⟨g, 0, none⟩).run Tryz.prog W = .ok (vPf p.d) W ∧ (loadVar 55 ⟨g, 17, none⟩).run Tryz.prog W = .ok (vPf p.s) W ∧ (loadVar 57 ⟨g, 0, none⟩).run Tryz.prog W = .ok (vPP p) W := by
  have hr := row_load h
  refine ⟨?_, ?_, ?_⟩
  · exact run_loadVar_mid W g 0 55 (pCs p.d.a p.d.n) _ (fun j v hj => hr j v (pp_at1 hj)) Tryz.underlying55 rfl (by rw [pCs_len hp.1.1]; exact size55)
  · exact run_loadVar_mid W g 17 55 (pCs p.s.a p.s.n) _ (fun j v hj => by have := hr (17 + j) v (pp_at2 hp hj); rwa [Nat.zero_add] at this) Tryz.underlying55 rfl (by rw [pCs_len hp.2.1]; exact size55)
  · exact run_loadVar_mid W g 0 57 (pCs p.d.a p.d.n ++ pCs p.s.a p.s.n) _ hr Tryz.underlying57 rfl (by rw [List.length_append, pCs_len hp.1.1, pCs_len hp.2.1]; exact size57)
set_option maxRecDepth 100000 in
set_option maxHeartbeats 1600000 in
theorem chkPP_any {w : World} {p : Pr} (hp : p.fit) : Calls Tryz.prog 60 #[vPP p] w fun e w' => e = .returned (errP (chkPP p)) ∧ Below w.heap.size w w' := by
  obtain ⟨c, hc⟩ : ∃ c, chk p.d = c := ⟨_, rfl⟩
  obtain ⟨d, hd⟩ : ∃ c, chk p.s = c := ⟨_, rfl⟩
  cases c
  · have hr : chkPP p = false := by simp [chkPP, hc]
    rw [hr]
    clear hr
    replace hp := Lib.hid hp
    unfold vPP
    go_enter Tryz.func60, Tryz.ntmps60
    go_wp2_with fail
    refine wp_region_C (C := Bx w w.heap.size [(w.heap.size, oPP p)]) (by kernel_rfl) (by kernel_rfl) (Bx.drew (Bx.start1 w (oPP p))) ?_
    refine wpQuiet_hide ?_
    intro lq hlq
    refine wpQuiet_step_h hlq ?_
    clear hlq lq
    intro K lq hlq hK
    refine wanted_go (by rfl) ?_
    refine ⟨?_, fun W hW => ?_, ?_⟩
    rotate_left
    · obtain ⟨q1, q2, q3⟩ := BoxPP.run hW.2.1.1 hp.out
      go_simp
      with_reducible rfl
    refine hK _ ?_
    clear hK K
    (try simp only [Act.put, List.setIfInBounds_toArray, List.set_cons_zero, List.set_cons_succ])
    refine wpQuiet_step_h hlq ?_
    clear hlq lq
    intro K lq hlq hK
    refine wanted_go (by rfl) ?_
    refine ⟨vPf p.d, fun W hW => ?_, ?_⟩
    · obtain ⟨q1, q2, q3⟩ := BoxPP.run hW.2.1.1 hp.out
      exact quiet_load 55 _ rfl rfl q1
    refine hK _ ?_
    clear hK K
    (try simp only [Act.put, List.setIfInBounds_toArray, List.set_cons_zero, List.set_cons_succ])
    refine wpQuiet_step_h hlq ?_
    clear hlq lq
    intro K lq hlq hK
    refine wanted_go (by rfl) ?_
    refine ⟨.int .i64 21, fun W hW => ?_, ?_⟩
    · go_simp
      refine (check_any hp.out.1).mono fun e W2 hc2 => ⟨by rw [hc2.1, hc]; rfl, hW.go hc2.2⟩
    refine hK _ ?_
    clear hK K
    (try simp only [Act.put, List.setIfInBounds_toArray, List.set_cons_zero, List.set_cons_succ])
    refine wpQuiet_step_h hlq ?_
    clear hlq lq
    intro K lq hlq hK
    refine wanted_go (by rfl) ?_
    refine ⟨?_, fun W hW => ?_, ?_⟩
    rotate_left
    · obtain ⟨q1, q2, q3⟩ := BoxPP.run hW.2.1.1 hp.out
      go_simp
      with_reducible rfl
    refine hK _ ?_
    clear hK K
    (try simp only [Act.put, List.setIfInBounds_toArray, List.set_cons_zero, List.set_cons_succ])
    refine wpQuiet_step_h hlq ?_
    clear hlq lq
    intro K lq hlq hK
    refine wanted_go (by rfl) ?_
    refine ⟨?_, fun W hW => ?_, ?_⟩
    rotate_left
    · obtain ⟨q1, q2, q3⟩ := BoxPP.run hW.2.1.1 hp.out
      go_simp
      with_reducible rfl
    refine hK _ ?_
    clear hK K
    (try simp only [Act.put, List.setIfInBounds_toArray, List.set_cons_zero, List.set_cons_succ])
    refine wpQuiet_step_h hlq ?_
    clear hlq lq
    intro K lq hlq hK
    go_simp
    refine hK _ ?_
    clear hK K
    refine wpQuiet_step_h hlq ?_
    clear hlq lq
    intro K lq hlq hK
    go_simp
    refine hK _ ?_
    clear hK K
    refine wpQuiet_step_h hlq ?_
    clear hlq lq
    intro K lq hlq hK
    go_simp
    refine hK _ ?_
    clear hK K
    refine wpQuiet_step_h hlq ?_
    clear hlq lq
    intro K lq hlq hK
    go_simp
    refine hK _ ?_
    clear hK K
    refine wpQuiet_step_h hlq ?_
    clear hlq lq
    intro K lq hlq hK
    refine wanted_go (by rfl) ?_
    refine ⟨?_, fun W hW => ?_, ?_⟩
    rotate_left
    · obtain ⟨q1, q2, q3⟩ := BoxPP.run hW.2.1.1 hp.out
      go_simp
      with_reducible rfl
    refine hK _ ?_
    clear hK K
    (try simp only [Act.put, List.setIfInBounds_toArray, List.set_cons_zero, List.set_cons_succ])
    refine wpQuiet_step_h hlq ?_
    clear hlq lq
    intro K lq hlq hK
    refine wanted_go (by rfl) ?_
    refine ⟨?_, fun W hW => ?_, ?_⟩
    rotate_left
    · obtain ⟨q1, q2, q3⟩ := BoxPP.run hW.2.1.1 hp.out
      go_simp
      with_reducible rfl
    refine hK _ ?_
    clear hK K
    (try simp only [Act.put, List.setIfInBounds_toArray, List.set_cons_zero, List.set_cons_succ])
    refine wpQuiet_step_h hlq ?_
    clear hlq lq
    intro K lq hlq hK
    go_simp
    refine hK _ ?_
    clear hK K
    refine wpQuiet_step_h hlq ?_
    clear hlq lq
    intro K lq hlq hK
    go_simp
    refine hK _ ?_
    clear hK K
    refine wpQuiet_step_h hlq ?_
    clear hlq lq
    intro K lq hlq hK
    go_simp
    refine hK _ ?_
    clear hK K
    refine wpQuiet_step_h hlq ?_
    clear hlq lq
    intro K lq hlq hK
    go_simp
    refine hK _ ?_
    clear hK K
    refine wpQuiet_step_h hlq ?_
    clear hlq lq
    intro K lq hlq hK
    go_simp
    refine hK _ ?_
    clear hK K
    refine wpQuiet_step_h hlq ?_
    clear hlq lq
    intro K lq hlq hK
    go_simp
    refine hK _ ?_
    clear hK K
    refine wpQuiet_step_h hlq ?_
    clear hlq lq
    intro K lq hlq hK
    go_simp
    refine hK _ ?_
    clear hK K
    refine wpQuiet_step_h hlq ?_
    clear hlq lq
    intro K lq hlq hK
    refine wanted_go (by rfl) ?_
    refine ⟨?_, fun W hW => ?_, ?_⟩
    rotate_left
    · obtain ⟨q1, q2, q3⟩ := BoxPP.run hW.2.1.1 hp.out
      go_simp
      with_reducible rfl
    refine hK _ ?_
    clear hK K
    (try simp only [Act.put, List.setIfInBounds_toArray, List.set_cons_zero, List.set_cons_succ])
    refine wpQuiet_nil_h hlq ?_
    clear hlq lq
    intro w' hC'
    go_wp2_with fail
    go_ret
    exact ⟨rfl, hC'.1⟩
  · cases d
    · have hr : chkPP p = false := by simp [chkPP, hc, hd]
      rw [hr]
      clear hr
      replace hp := Lib.hid hp
      unfold vPP
      go_enter Tryz.func60, Tryz.ntmps60
      go_wp2_with fail
      refine wp_region_C (C := Bx w w.heap.size [(w.heap.size, oPP p)]) (by kernel_rfl) (by kernel_rfl) (Bx.drew (Bx.start1 w (oPP p))) ?_
      refine wpQuiet_hide ?_
      intro lq hlq
      refine wpQuiet_step_h hlq ?_
      clear hlq lq
      intro K lq hlq hK
      refine wanted_go (by rfl) ?_
      refine ⟨?_, fun W hW => ?_, ?_⟩
      rotate_left
      · obtain ⟨q1, q2, q3⟩ := BoxPP.run hW.2.1.1 hp.out
        go_simp
        with_reducible rfl
      refine hK _ ?_
      clear hK K
      (try simp only [Act.put, List.setIfInBounds_toArray, List.set_cons_zero, List.set_cons_succ])
      refine wpQuiet_step_h hlq ?_
      clear hlq lq
      intro K lq hlq hK
      refine wanted_go (by rfl) ?_
      refine ⟨vPf p.d, fun W hW => ?_, ?_⟩
      · obtain ⟨q1, q2, q3⟩ := BoxPP.run hW.2.1.1 hp.out
        exact quiet_load 55 _ rfl rfl q1
      refine hK _ ?_
      clear hK K
      (try simp only [Act.put, List.setIfInBounds_toArray, List.set_cons_zero, List.set_cons_succ])
      refine wpQuiet_step_h hlq ?_
      clear hlq lq
      intro K lq hlq hK
      refine wanted_go (by rfl) ?_
      refine ⟨.int .i64 0, fun W hW => ?_, ?_⟩
      · go_simp
        refine (check_any hp.out.1).mono fun e W2 hc2 => ⟨by rw [hc2.1, hc]; rfl, hW.go hc2.2⟩
      refine hK _ ?_
      clear hK K
      (try simp only [Act.put, List.setIfInBounds_toArray, List.set_cons_zero, List.set_cons_succ])
      refine wpQuiet_step_h hlq ?_
      clear hlq lq
      intro K lq hlq hK
      refine wanted_go (by rfl) ?_
      refine ⟨?_, fun W hW => ?_, ?_⟩
      rotate_left
      · obtain ⟨q1, q2, q3⟩ := BoxPP.run hW.2.1.1 hp.out
        go_simp
        with_reducible rfl
      refine hK _ ?_
      clear hK K
      (try simp only [Act.put, List.setIfInBounds_toArray, List.set_cons_zero, List.set_cons_succ])
      refine wpQuiet_step_h hlq ?_
      clear hlq lq
      intro K lq hlq hK
      refine wanted_go (by rfl) ?_
      refine ⟨?_, fun W hW => ?_, ?_⟩
      rotate_left
      · obtain ⟨q1, q2, q3⟩ := BoxPP.run hW.2.1.1 hp.out
        go_simp
        with_reducible rfl
      refine hK _ ?_
      clear hK K
      (try simp only [Act.put, List.setIfInBounds_toArray, List.set_cons_zero, List.set_cons_succ])
      refine wpQuiet_step_h hlq ?_
      clear hlq lq
      intro K lq hlq hK
      refine wanted_go (by rfl) ?_
      refine ⟨?_, fun W hW => ?_, ?_⟩
      rotate_left
      · obtain ⟨q1, q2, q3⟩ := BoxPP.run hW.2.1.1 hp.out
        go_simp
        with_reducible rfl
      refine hK _ ?_
      clear hK K
      (try simp only [Act.put, List.setIfInBounds_toArray, List.set_cons_zero, List.set_cons_succ])
      refine wpQuiet_step_h hlq ?_
      clear hlq lq
      intro K lq hlq hK
      refine wanted_go (by rfl) ?_
      refine ⟨vPf p.s, fun W hW => ?_, ?_⟩
      · obtain ⟨q1, q2, q3⟩ := BoxPP.run hW.2.1.1 hp.out
        exact quiet_load 55 _ rfl rfl q2
      refine hK _ ?_
      clear hK K
      (try simp only [Act.put, List.setIfInBounds_toArray, List.set_cons_zero, List.set_cons_succ])
      refine wpQuiet_step_h hlq ?_
      clear hlq lq
      intro K lq hlq hK
      refine wanted_go (by rfl) ?_
      refine ⟨.int .i64 21, fun W hW => ?_, ?_⟩
      · go_simp
        refine (check_any hp.out.2).mono fun e W2 hc2 => ⟨by rw [hc2.1, hd]; rfl, hW.go hc2.2⟩
      refine hK _ ?_
      clear hK K
      (try simp only [Act.put, List.setIfInBounds_toArray, List.set_cons_zero, List.set_cons_succ])
      refine wpQuiet_step_h hlq ?_
      clear hlq lq
      intro K lq hlq hK
      refine wanted_go (by rfl) ?_
      refine ⟨?_, fun W hW => ?_, ?_⟩
      rotate_left
      · obtain ⟨q1, q2, q3⟩ := BoxPP.run hW.2.1.1 hp.out
        go_simp
        with_reducible rfl
      refine hK _ ?_
      clear hK K
      (try simp only [Act.put, List.setIfInBounds_toArray, List.set_cons_zero, List.set_cons_succ])
      refine wpQuiet_step_h hlq ?_
      clear hlq lq
      intro K lq hlq hK
      refine wanted_go (by rfl) ?_
      refine ⟨?_, fun W hW => ?_, ?_⟩
      rotate_left
      · obtain ⟨q1, q2, q3⟩ := BoxPP.run hW.2.1.1 hp.out
        go_simp
        with_reducible rfl
      refine hK _ ?_
      clear hK K
      (try simp only [Act.put, List.setIfInBounds_toArray, List.set_cons_zero, List.set_cons_succ])
      refine wpQuiet_step_h hlq ?_
      clear hlq lq
      intro K lq hlq hK
      refine wanted_go (by rfl) ?_
      refine ⟨?_, fun W hW => ?_, ?_⟩
      rotate_left
      · obtain ⟨q1, q2, q3⟩ := BoxPP.run hW.2.1.1 hp.out
        go_simp
        with_reducible rfl
      refine hK _ ?_
      clear hK K
      (try simp only [Act.put, List.setIfInBounds_toArray, List.set_cons_zero, List.set_cons_succ])
      refine wpQuiet_step_h hlq ?_
      clear hlq lq
      intro K lq hlq hK
      go_simp
      refine hK _ ?_
      clear hK K
      refine wpQuiet_step_h hlq ?_
      clear hlq lq
      intro K lq hlq hK
      go_simp
      refine hK _ ?_
      clear hK K
      refine wpQuiet_step_h hlq ?_
      clear hlq lq
      intro K lq hlq hK
      go_simp
      refine hK _ ?_
      clear hK K
      refine wpQuiet_step_h hlq ?_
      clear hlq lq
      intro K lq hlq hK
      go_simp
      refine hK _ ?_
      clear hK K
      refine wpQuiet_step_h hlq ?_
      clear hlq lq
      intro K lq hlq hK
      go_simp
      refine hK _ ?_
      clear hK K
      refine wpQuiet_step_h hlq ?_
      clear hlq lq
      intro K lq hlq hK
      go_simp
      refine hK _ ?_
      clear hK K
      refine wpQuiet_step_h hlq ?_
      clear hlq lq
      intro K lq hlq hK
      go_simp
      refine hK _ ?_
      clear hK K
      refine wpQuiet_step_h hlq ?_
      clear hlq lq
      intro K lq hlq hK
      refine wanted_go (by rfl) ?_
      refine ⟨?_, fun W hW => ?_, ?_⟩
      rotate_left
      · obtain ⟨q1, q2, q3⟩ := BoxPP.run hW.2.1.1 hp.out
        go_simp
        with_reducible rfl
      refine hK _ ?_
      clear hK K
      (try simp only [Act.put, List.setIfInBounds_toArray, List.set_cons_zero, List.set_cons_succ])
      refine wpQuiet_nil_h hlq ?_
      clear hlq lq
      intro w' hC'
      go_wp2_with fail
      go_ret
      exact ⟨rfl, hC'.1⟩
    · obtain ⟨b, hb⟩ : ∃ c, decide (pfam p.d = pfam p.s) = c := ⟨_, rfl⟩
      have hr : chkPP p = b := by simp [chkPP, hc, hd, hb]
      have hb2 : (pfam p.d == pfam p.s) = b := by rw [← hb]; rfl
      rw [hr]
      clear hr
      replace hp := Lib.hid hp
      unfold vPP
      go_enter Tryz.func60, Tryz.ntmps60
      go_wp2_with fail
      refine wp_region_C (C := Bx w w.heap.size [(w.heap.size, oPP p)]) (by kernel_rfl) (by kernel_rfl) (Bx.drew (Bx.start1 w (oPP p))) ?_
      refine wpQuiet_hide ?_
      intro lq hlq
      refine wpQuiet_step_h hlq ?_
      clear hlq lq
      intro K lq hlq hK
      refine wanted_go (by rfl) ?_
      refine ⟨?_, fun W hW => ?_, ?_⟩
      rotate_left
      · obtain ⟨q1, q2, q3⟩ := BoxPP.run hW.2.1.1 hp.out
        go_simp
        with_reducible rfl
      refine hK _ ?_
      clear hK K
      (try simp only [Act.put, List.setIfInBounds_toArray, List.set_cons_zero, List.set_cons_succ])
      refine wpQuiet_step_h hlq ?_
      clear hlq lq
      intro K lq hlq hK
      refine wanted_go (by rfl) ?_
      refine ⟨vPf p.d, fun W hW => ?_, ?_⟩
      · obtain ⟨q1, q2, q3⟩ := BoxPP.run hW.2.1.1 hp.out
        exact quiet_load 55 _ rfl rfl q1
      refine hK _ ?_
      clear hK K
      (try simp only [Act.put, List.setIfInBounds_toArray, List.set_cons_zero, List.set_cons_succ])
      refine wpQuiet_step_h hlq ?_
      clear hlq lq
      intro K lq hlq hK
      refine wanted_go (by rfl) ?_
      refine ⟨.int .i64 0, fun W hW => ?_, ?_⟩
      · go_simp
        refine (check_any hp.out.1).mono fun e W2 hc2 => ⟨by rw [hc2.1, hc]; rfl, hW.go hc2.2⟩
      refine hK _ ?_
      clear hK K
      (try simp only [Act.put, List.setIfInBounds_toArray, List.set_cons_zero, List.set_cons_succ])
      refine wpQuiet_step_h hlq ?_
      clear hlq lq
      intro K lq hlq hK
      refine wanted_go (by rfl) ?_
      refine ⟨?_, fun W hW => ?_, ?_⟩
      rotate_left
      · obtain ⟨q1, q2, q3⟩ := BoxPP.run hW.2.1.1 hp.out
        go_simp
        with_reducible rfl
      refine hK _ ?_
      clear hK K
      (try simp only [Act.put, List.setIfInBounds_toArray, List.set_cons_zero, List.set_cons_succ])
      refine wpQuiet_step_h hlq ?_
      clear hlq lq
      intro K lq hlq hK
      refine wanted_go (by rfl) ?_
      refine ⟨?_, fun W hW => ?_, ?_⟩
      rotate_left
      · obtain ⟨q1, q2, q3⟩ := BoxPP.run hW.2.1.1 hp.out
        go_simp
        with_reducible rfl
      refine hK _ ?_
      clear hK K
      (try simp only [Act.put, List.setIfInBounds_toArray, List.set_cons_zero, List.set_cons_succ])
      refine wpQuiet_step_h hlq ?_
      clear hlq lq
      intro K lq hlq hK
      refine wanted_go (by rfl) ?_
      refine ⟨?_, fun W hW => ?_, ?_⟩
      rotate_left
      · obtain ⟨q1, q2, q3⟩ := BoxPP.run hW.2.1.1 hp.out
        go_simp
        with_reducible rfl
      refine hK _ ?_
      clear hK K
      (try simp only [Act.put, List.setIfInBounds_toArray, List.set_cons_zero, List.set_cons_succ])
      refine wpQuiet_step_h hlq ?_
      clear hlq lq
      intro K lq hlq hK
      refine wanted_go (by rfl) ?_
      refine ⟨vPf p.s, fun W hW => ?_, ?_⟩
      · obtain ⟨q1, q2, q3⟩ := BoxPP.run hW.2.1.1 hp.out
        exact quiet_load 55 _ rfl rfl q2
      refine hK _ ?_
      clear hK K
      (try simp only [Act.put, List.setIfInBounds_toArray, List.set_cons_zero, List.set_cons_succ])
      refine wpQuiet_step_h hlq ?_
      clear hlq lq
      intro K lq hlq hK
      refine wanted_go (by rfl) ?_
      refine ⟨.int .i64 0, fun W hW => ?_, ?_⟩
      · go_simp
        refine (check_any hp.out.2).mono fun e W2 hc2 => ⟨by rw [hc2.1, hd]; rfl, hW.go hc2.2⟩
      refine hK _ ?_
      clear hK K
      (try simp only [Act.put, List.setIfInBounds_toArray, List.set_cons_zero, List.set_cons_succ])
      refine wpQuiet_step_h hlq ?_
      clear hlq lq
      intro K lq hlq hK
      refine wanted_go (by rfl) ?_
      refine ⟨?_, fun W hW => ?_, ?_⟩
      rotate_left
      · obtain ⟨q1, q2, q3⟩ := BoxPP.run hW.2.1.1 hp.out
        go_simp
        with_reducible rfl
      refine hK _ ?_
      clear hK K
      (try simp only [Act.put, List.setIfInBounds_toArray, List.set_cons_zero, List.set_cons_succ])
      refine wpQuiet_step_h hlq ?_
      clear hlq lq
      intro K lq hlq hK
      refine wanted_go (by rfl) ?_
      refine ⟨?_, fun W hW => ?_, ?_⟩
      rotate_left
      · obtain ⟨q1, q2, q3⟩ := BoxPP.run hW.2.1.1 hp.out
        go_simp
        with_reducible rfl
      refine hK _ ?_
      clear hK K
      (try simp only [Act.put, List.setIfInBounds_toArray, List.set_cons_zero, List.set_cons_succ])
      refine wpQuiet_step_h hlq ?_
      clear hlq lq
      intro K lq hlq hK
      refine wanted_go (by rfl) ?_
      refine ⟨?_, fun W hW => ?_, ?_⟩
      rotate_left
      · obtain ⟨q1, q2, q3⟩ := BoxPP.run hW.2.1.1 hp.out
        go_simp
        with_reducible rfl
      refine hK _ ?_
      clear hK K
      (try simp only [Act.put, List.setIfInBounds_toArray, List.set_cons_zero, List.set_cons_succ])
      refine wpQuiet_step_h hlq ?_
      clear hlq lq
      intro K lq hlq hK
      refine wanted_go (by rfl) ?_
      refine ⟨?_, fun W hW => ?_, ?_⟩
      rotate_left
      · obtain ⟨q1, q2, q3⟩ := BoxPP.run hW.2.1.1 hp.out
        go_simp
        with_reducible rfl
      refine hK _ ?_
      clear hK K
      (try simp only [Act.put, List.setIfInBounds_toArray, List.set_cons_zero, List.set_cons_succ])
      refine wpQuiet_step_h hlq ?_
      clear hlq lq
      intro K lq hlq hK
      refine wanted_go (by rfl) ?_
      refine ⟨vPf p.d, fun W hW => ?_, ?_⟩
      · obtain ⟨q1, q2, q3⟩ := BoxPP.run hW.2.1.1 hp.out
        exact quiet_load 55 _ rfl rfl q1
      refine hK _ ?_
      clear hK K
      (try simp only [Act.put, List.setIfInBounds_toArray, List.set_cons_zero, List.set_cons_succ])
      refine wpQuiet_step_h hlq ?_
      clear hlq lq
      intro K lq hlq hK
      refine wanted_go (by rfl) ?_
      refine ⟨.int .i64 (pfam p.d), fun W hW => ?_, ?_⟩
      · go_simp
        refine (pfam_any hp.out.1).mono fun e W2 hc2 => ⟨hc2.1, hW.go hc2.2⟩
      refine hK _ ?_
      clear hK K
      (try simp only [Act.put, List.setIfInBounds_toArray, List.set_cons_zero, List.set_cons_succ])
      refine wpQuiet_step_h hlq ?_
      clear hlq lq
      intro K lq hlq hK
      refine wanted_go (by rfl) ?_
      refine ⟨?_, fun W hW => ?_, ?_⟩
      rotate_left
      · obtain ⟨q1, q2, q3⟩ := BoxPP.run hW.2.1.1 hp.out
        go_simp
        with_reducible rfl
      refine hK _ ?_
      clear hK K
      (try simp only [Act.put, List.setIfInBounds_toArray, List.set_cons_zero, List.set_cons_succ])
      refine wpQuiet_step_h hlq ?_
      clear hlq lq
      intro K lq hlq hK
      refine wanted_go (by rfl) ?_
      refine ⟨vPf p.s, fun W hW => ?_, ?_⟩
      · obtain ⟨q1, q2, q3⟩ := BoxPP.run hW.2.1.1 hp.out
        exact quiet_load 55 _ rfl rfl q2
      refine hK _ ?_
      clear hK K
      (try simp only [Act.put, List.setIfInBounds_toArray, List.set_cons_zero, List.set_cons_succ])
      refine wpQuiet_step_h hlq ?_
      clear hlq lq
      intro K lq hlq hK
      refine wanted_go (by rfl) ?_
      refine ⟨.int .i64 (pfam p.s), fun W hW => ?_, ?_⟩
      · go_simp
        refine (pfam_any hp.out.2).mono fun e W2 hc2 => ⟨hc2.1, hW.go hc2.2⟩
      refine hK _ ?_
      clear hK K
      (try simp only [Act.put, List.setIfInBounds_toArray, List.set_cons_zero, List.set_cons_succ])
      refine wpQuiet_step_h hlq ?_
      clear hlq lq
      intro K lq hlq hK
      refine wanted_go (by rfl) ?_
      refine ⟨?_, fun W hW => ?_, ?_⟩
      rotate_left
      · obtain ⟨q1, q2, q3⟩ := BoxPP.run hW.2.1.1 hp.out
        go_simp
        with_reducible rfl
      refine hK _ ?_
      clear hK K
      (try simp only [Act.put, List.setIfInBounds_toArray, List.set_cons_zero, List.set_cons_succ])
      refine wpQuiet_step_h hlq ?_
      clear hlq lq
      intro K lq hlq hK
      refine wanted_go (by rfl) ?_
      refine ⟨?_, fun W hW => ?_, ?_⟩
      rotate_left
      · obtain ⟨q1, q2, q3⟩ := BoxPP.run hW.2.1.1 hp.out
        go_simp
        with_reducible rfl
      refine hK _ ?_
      clear hK K
      (try simp only [Act.put, List.setIfInBounds_toArray, List.set_cons_zero, List.set_cons_succ])
      refine wpQuiet_nil_h hlq ?_
      clear hlq lq
      intro w' hC'
      cases b
      · go_wp2_with fail
        go_ret
        exact ⟨rfl, hC'.1⟩
      · go_wp2_with fail
        go_ret
        exact ⟨rfl, hC'.1⟩
end Go.Proofs.YtnljjlaececnkaaGreatDoor
/-
  The prefix of all addresses; the prefix of an address's first bits. Condition: an address is sixteen bytes, a length a machine's number.
-/
namespace Go.Proofs.YtnljjlaececnkaaGreatDoor
open Go.RowKit
set_option linter.unusedVariables false
set_option linter.unusedSimpArgs false
theorem setRow_new (w : World) (old cs : Array Value) (t : TypeId) : (w.alloc (.cells old t)).setRow w.heap.size cs = w.alloc (.cells cs t) := by
  have h : ((w.heap.push (.cells old t)).modify w.heap.size fun | .cells _ elem frozen => .cells cs elem frozen | o => o) = w.heap.push (.cells cs t) := by
    apply Array.ext_getElem?
    intro k
    rw [Array.getElem?_modify, Array.getElem?_push, Array.getElem?_push]
    by_cases hk : w.heap.size = k
    · rw [if_pos hk, if_pos hk.symm, if_pos hk.symm]; rfl
    · rw [if_neg hk, if_neg (fun e => hk e.symm), if_neg (fun e => hk e.symm)]
  unfold World.setRow World.alloc
  congr 1
theorem wpList_run {P : Program} {ops : Array Oper} {rest : List Oper} {o : Oper} {a : Act} {w w' : World} {Q : Exit → Act → World → Prop} {v : Value} (hgd : o.guard = none) (h : (execOp a.eval o).run P w = .ok (.value v) w') (hK : wpList P ops Q rest (a.put o.dst v) w') : wpList P ops Q (o :: rest) a w :=
  wpList_plain hgd fun K hK' => by unfold Oper.wp; rw [h]; exact hK' _ _ hK
/-- A store into what was just laid. -/
theorem wpList_store_new {P : Program} {ops : Array Oper} {rest : List Oper} {o : Oper} {a : Act} {w : World} {Q : Exit → Act → World → Prop} (hgd : o.guard = none) (ty : TypeId) (x y : Operand) (ho : o.op = .store ty x y)
    {cells old : Array Value} {t : TypeId} (hx : a.eval x = .pointer (some ⟨w.heap.size, 0, none⟩)) (hy : a.eval y = .agg cells) (hi : (P.info? ty).map (·.size) = some cells.size) (hold : old.size = cells.size) (h1 : cells.all (·.oneCell') = true)
    (h : wpList P ops Q rest (a.put o.dst undef) (w.alloc (.cells cells t))) : wpList P ops Q (o :: rest) a (w.alloc (.cells old t)) := by
  refine wpList_store_row hgd ty x y ho w.heap.size cells hx hy t old (heap_alloc_new w _) hi hold h1 ?_
  rw [setRow_new]; exact h
theorem results_cell_tmp {P : Program} {fn : Func} {p q : Tmp} {ty : TypeId} (h : fn.results = #[.cell p ty, .tmp q]) (tmps : Array Value) (w : World) {v : Value} {ad : Addr}
    (hp : tmps.getD p undef = .pointer (some ad)) (hl : (loadVar ty ad).run P w = .ok v w) {u : Value} (hq : tmps.getD q undef = u) : (results fn tmps).run P w = .ok (.tuple #[v, u]) w := by
  have hp' : tmps[p]?.getD undef = .pointer (some ad) := by simpa using hp
  have hq' : tmps[q]?.getD undef = u := by simpa using hq
  simp [results, h, hp', hq', asAddr, hl]
theorem results_cell_only {P : Program} {fn : Func} {p : Tmp} {ty : TypeId} (h : fn.results = #[.cell p ty]) (tmps : Array Value) (w : World) {v : Value} {ad : Addr}
    (hp : tmps.getD p undef = .pointer (some ad)) (hl : (loadVar ty ad).run P w = .ok v w) : (results fn tmps).run P w = .ok v w := by
  have hp' : tmps[p]?.getD undef = .pointer (some ad) := by simpa using hp
  simp [results, h, hp', asAddr, hl]
theorem pCs_one (a : List Int) (n : Int) : (pCs a n).toArray.all (·.oneCell') = true := all_oneCell_toArray (by
  intro u hu
  rcases List.mem_append.1 hu with h | h
  · exact nums_one _ _ u h
  · rw [List.mem_singleton.1 h]; rfl)
theorem pCs_size {a : List Int} (ha : isA a) (n : Int) : (pCs a n).toArray.size = 17 := pCs_len ha n
theorem zeroA_ok : isA zeroA := ⟨rfl, by decide⟩
theorem mapA_ok : isA (mapd ++ [0, 0, 0, 0]) := ⟨rfl, by decide⟩
theorem info55 {a : List Int} (ha : isA a) (n : Int) : (Tryz.prog.info? 55).map (·.size) = some (pCs a n).toArray.size := by rw [pCs_size ha]; exact size55
theorem shared_any {w : World} (f : Int) : Calls Tryz.prog 122 #[.int .i64 f] w fun e w' => e = .returned (.int .i64 (offOf f)) ∧ w' = w := by
  obtain ⟨b, hb⟩ : ∃ b, (f == 4) = b := ⟨_, rfl⟩
  have hr : offOf f = if b then 96 else 0 := by unfold offOf; rw [← hb]; simp
  rw [hr]
  go_enter Tryz.func122, Tryz.ntmps122
  cases b
  · go_wp2_with fail
    go_ret
    exact ⟨rfl, rfl⟩
  · go_wp2_with fail
    go_ret
    exact ⟨rfl, rfl⟩
set_option maxRecDepth 100000 in
set_option maxHeartbeats 800000 in
theorem any_any {w : World} (f : Int) : Calls Tryz.prog 55 #[.int .i64 f] w fun e w' => e = .returned (vPf (anyP f)) ∧ Below w.heap.size w w' := by
  obtain ⟨b, hb⟩ : ∃ b, (f == 4) = b := ⟨_, rfl⟩
  cases b
  · have hf : f ≠ 4 := by simpa using hb
    have h0 : offOf f = 0 := if_neg hf
    have hr : anyP f = zeroP := if_neg hf
    rw [hr]
    clear hr
    replace hf := Lib.hid hf
    go_enter Tryz.func55, Tryz.ntmps55
    go_wp2_with (refine wpList_quiet_take (C := Bx w w.heap.size [(w.heap.size, oP zeroP)]) 4 2 (by rfl) (Bx.start1 w (oP zeroP)) ?_)
    (try simp only [List.take_succ_cons, List.take_zero, List.drop_succ_cons, List.drop_zero])
    refine wpQuiet_hide ?_
    intro lq hlq
    refine wpQuiet_step_h hlq ?_
    clear hlq lq
    intro K lq hlq hK
    refine wanted_go (by rfl) ?_
    refine ⟨.int .i64 0, fun W hW => ?_, ?_⟩
    · go_simp
      refine (shared_any f).mono fun e W2 hc2 => ⟨by rw [hc2.1, h0], by rw [hc2.2]; exact hW⟩
    refine hK _ ?_
    clear hK K
    (try simp only [Act.put, List.setIfInBounds_toArray, List.set_cons_zero, List.set_cons_succ])
    refine wpQuiet_step_h hlq ?_
    clear hlq lq
    intro K lq hlq hK
    refine wanted_go (by rfl) ?_
    refine ⟨.agg (pCs zeroA 0).toArray, fun W hW => ?_, ?_⟩
    · skip
      go_simp
      rfl
    refine hK _ ?_
    clear hK K
    (try simp only [Act.put, List.setIfInBounds_toArray, List.set_cons_zero, List.set_cons_succ])
    refine wpQuiet_nil_h hlq ?_
    clear hlq lq
    intro W1 h1
    have h2 := h1.go ((Below.refl W1.heap.size W1).alloc (Nat.le_refl _) (oP zeroP))
    have hb2 := Lib.hid h2.2.1.1
    have bel := h2.1
    have hb3 := Lib.hid (box1 W1 (oP zeroP))
    clear h2
    go_wp2_with (first
      | (refine wpList_store_new rfl 55 (.tmp 3) (.tmp 6) rfl rfl rfl (info55 zeroA_ok _) (by rw [pCs_size zeroA_ok]; rfl) (pCs_one _ _) ?_)
      | (refine wpList_load_mid rfl 55 (.tmp 3) rfl W1.heap.size 0 rfl (pCs zeroA 0) _ (row_load hb3.out) Tryz.underlying55 rfl (info55 zeroA_ok _) ?_)
      | (refine wpList_store_row rfl 55 (.tmp 2) (.tmp 12) rfl w.heap.size _ rfl rfl 55 (pCs zeroA 0).toArray hb2.out (info55 zeroA_ok _) rfl (pCs_one _ _) ?_))
    refine bodyPost_ret (v := vPf (zeroP)) ?_ rfl ⟨rfl, below_row bel (Nat.le_refl _) _⟩
    exact results_cell_only rfl _ _ rfl (BoxP.run (p := zeroP) (setRow_heap _ _ _ _ _ _ hb2.out) zeroA_ok).2.2
  · obtain rfl : f = 4 := by simpa using hb
    go_enter Tryz.func55, Tryz.ntmps55
    go_wp2_with (refine wpList_quiet_take (C := Bx w w.heap.size [(w.heap.size, oP zeroP)]) 4 2 (by rfl) (Bx.start1 w (oP zeroP)) ?_)
    (try simp only [List.take_succ_cons, List.take_zero, List.drop_succ_cons, List.drop_zero])
    refine wpQuiet_hide ?_
    intro lq hlq
    refine wpQuiet_step_h hlq ?_
    clear hlq lq
    intro K lq hlq hK
    refine wanted_go (by rfl) ?_
    refine ⟨.int .i64 96, fun W hW => ?_, ?_⟩
    · go_simp
      refine (shared_any 4).mono fun e W2 hc2 => ⟨hc2.1, by rw [hc2.2]; exact hW⟩
    refine hK _ ?_
    clear hK K
    (try simp only [Act.put, List.setIfInBounds_toArray, List.set_cons_zero, List.set_cons_succ])
    refine wpQuiet_step_h hlq ?_
    clear hlq lq
    intro K lq hlq hK
    refine wanted_go (by rfl) ?_
    refine ⟨.agg (pCs zeroA 96).toArray, fun W hW => ?_, ?_⟩
    · skip
      go_simp
      rfl
    refine hK _ ?_
    clear hK K
    (try simp only [Act.put, List.setIfInBounds_toArray, List.set_cons_zero, List.set_cons_succ])
    refine wpQuiet_nil_h hlq ?_
    clear hlq lq
    intro W1 h1
    have h2 := h1.go ((Below.refl W1.heap.size W1).alloc (Nat.le_refl _) (oP (anyP 4)))
    have hb2 := Lib.hid h2.2.1.1
    have bel := h2.1
    have hb3 := Lib.hid (box1 W1 (oP (anyP 4)))
    clear h2
    have hcp : (Builtin.copy_ #[150, 9] 3 #[.slice (some ⟨W1.heap.size, 0, none⟩) 16 16, .string { data := #[0, 0, 0, 0, 0, 0, 0, 0, 0, 0, 255, 255] }]).run Tryz.prog (W1.alloc (.cells (pCs zeroA 96).toArray 55)) = .ok (.int .i64 12) (W1.alloc (.cells (pCs (mapd ++ [0, 0, 0, 0]) 96).toArray 55)) := by
      rw [Lib.run_copy_row_string _ 150 9 3 5 W1.heap.size 0 16 16 _ _ 55 Tryz.underlying150 (by kernel_rfl) (box1 W1 (.cells (pCs zeroA 96).toArray 55)) (by decide) (by decide)]
      rw [setRow_new]; rfl
    go_wp2_with (first
      | (refine wpList_store_new rfl 55 (.tmp 3) (.tmp 6) rfl rfl rfl (info55 zeroA_ok _) (by rw [pCs_size zeroA_ok]; rfl) (pCs_one _ _) ?_)
      | (refine wpList_load_mid rfl 55 (.tmp 3) rfl W1.heap.size 0 rfl (pCs (mapd ++ [0, 0, 0, 0]) 96) _ (row_load hb3.out) Tryz.underlying55 rfl (info55 mapA_ok _) ?_)
      | (refine wpList_store_row rfl 55 (.tmp 2) (.tmp 12) rfl w.heap.size _ rfl rfl 55 (pCs zeroA 0).toArray hb2.out (info55 mapA_ok _) (by rw [pCs_size zeroA_ok, pCs_size mapA_ok]) (pCs_one _ _) ?_))
    refine bodyPost_ret (v := vPf (anyP 4)) ?_ rfl ⟨rfl, below_row bel (Nat.le_refl _) _⟩
    exact results_cell_only rfl _ _ rfl (BoxP.run (p := anyP 4) (setRow_heap _ _ _ _ _ _ hb2.out) mapA_ok).2.2
end Go.Proofs.YtnljjlaececnkaaGreatDoor
