/-
  Frames and readings of bytes: the words that the contracts of this seat use. No condition.
-/
import Derived.Test.YtgfhhnmhpncnlaaRows
import Derived.WalkKit
import Derived.WalkSpells
import Derived.WalkLawsBesides
import Derived.Deep.QuietTactic
import Derived.BigQuiet
import Derived.StillTailTactics
import Derived.Deep.RegionHeld3
import Derived.Deep.RegionWith
import Derived.Deep.DeepCutAuto
import Derived.Deep.DeepFit
import Derived.Lib.Hide
import Derived.LaidEqlPtr
import Derived.Maps.AppendAt
namespace Go.Proofs.Ytgfhhnmhpncnlaa
open Go.RowKit
set_option linter.unusedVariables false
set_option linter.unusedSimpArgs false

/-- But for the blocks of S, what was there is as it was; the streams too. -/
structure Fr (S : Nat → Prop) (w w' : World) : Prop where
  os : w'.os = w.os
  tape : w'.tape = w.tape
  output : w'.output = w.output
  size : w.heap.size ≤ w'.heap.size
  block : ∀ k, k < w.heap.size → ¬ S k → w'.heap[k]? = w.heap[k]?
namespace Fr
variable {S S' : Nat → Prop} {w w' w2 : World}
theorem refl (S : Nat → Prop) (w : World) : Fr S w w := ⟨rfl, rfl, rfl, Nat.le_refl _, fun _ _ _ => rfl⟩
theorem trans (h : Fr S w w') (k : Fr S' w' w2) (hs : ∀ b, S' b → S b ∨ w.heap.size ≤ b) : Fr S w w2 :=
  ⟨k.os.trans h.os, k.tape.trans h.tape, k.output.trans h.output, Nat.le_trans h.size k.size,
   fun b hb hn => (k.block b (Nat.lt_of_lt_of_le hb h.size) (fun h2 => (hs b h2).elim hn (fun h3 => by omega))).trans (h.block b hb hn)⟩
theorem mono (h : Fr S w w') (hs : ∀ b, S b → S' b) : Fr S' w w' := ⟨h.os, h.tape, h.output, h.size, fun b hb hn => h.block b hb (fun h2 => hn (hs b h2))⟩
theorem of_below (h : Below w.heap.size w w') : Fr S w w' := ⟨h.os, h.tape, h.output, h.size, fun b hb _ => h.block b hb⟩
theorem below (h : Fr S w w') (hs : ∀ b, S b → w.heap.size ≤ b) : Below w.heap.size w w' := ⟨h.os, h.tape, h.output, h.size, fun b hb => h.block b hb (fun h2 => by have := hs b h2; omega)⟩
theorem alloc (h : Fr S w w') (o : Obj) : Fr S w (w'.alloc o) :=
  h.trans (S' := fun _ => False) ⟨rfl, rfl, rfl, by simp, fun b hb _ => Below.heap_alloc _ _ _ hb⟩ (fun _ h => h.elim)
theorem drew (h : Fr S w w') : Fr S w w'.drew := ⟨h.os, h.tape, h.output, h.size, h.block⟩
theorem drewN (h : Fr S w w') (n : Nat) : Fr S w (w'.drewN n) := ⟨h.os, h.tape, h.output, h.size, h.block⟩
theorem setCell (h : Fr S w w') {p : Addr} (hp : S p.block ∨ w.heap.size ≤ p.block) (u : Value) : Fr S w (w'.setCell p u) :=
  h.trans (S' := fun b => b = p.block) ⟨rfl, rfl, rfl, by simp [World.setCell], fun b _ hn => Below.heap_setCell _ _ _ _ hn⟩ (fun b hb => hb ▸ hp)
theorem grown (h : Fr S w w') {row : Option Nat} (hg : w'.grownBy w2 row) (hr : ∀ b, row = some b → S b ∨ w.heap.size ≤ b) : Fr S w w2 :=
  h.trans (S' := fun b => row = some b) ⟨hg.os, hg.tape, hg.output, hg.size, fun b hb hn => hg.block b hb (fun e => hn e.symm)⟩ hr
theorem cell (h : Fr S w w') {a : Addr} {v : Value} (hc : w.cell? a = some v) (hn : ¬ S a.block) : w'.cell? a = some v :=
  (World.cell?_of_block (w := w) (h.block a.block (World.block_lt_of_cell? w a hc) hn)).trans hc
theorem obj (h : Fr S w w') {g : Nat} {o : Obj} (hb : w.heap[g]? = some o) (hn : ¬ S g) : w'.heap[g]? = some o :=
  (h.block g (Array.getElem?_eq_some_iff.1 hb).1 hn).trans hb
end Fr

/-- The slice value v reads as the numbers l, each a byte; its block is none of S; its capacity is a Go one. -/
def Bs (w : World) (S : Nat → Prop) (v : Value) (l : List Int) : Prop :=
  ∃ A c, v = .slice A l.length c ∧ l.length ≤ c ∧ c ≤ maxLen ∧ (A = none → c = 0) ∧ (∀ x ∈ l, 0 ≤ x ∧ x < 256) ∧
    ∀ a, A = some a → 0 < l.length → a.spot = none ∧ ¬ S a.block ∧ a.block < w.heap.size ∧ ∀ j, j < l.length → w.cell? (a.add j) = some (.int .u8 (l.getD j 0))
theorem Bs.nil (w : World) (S : Nat → Prop) : Bs w S (.slice none 0 0) [] := ⟨none, 0, rfl, Nat.le_refl _, by decide, fun _ => rfl, by simp, fun a h => by cases h⟩
theorem add_block (a : Addr) (i : Nat) : (a.add i).block = a.block := by unfold Addr.add; split <;> rfl
theorem Bs.fr {w w' : World} {S S' : Nat → Prop} {v : Value} {l : List Int} (h : Bs w S v l) (hf : Fr S' w w') (hs : ∀ b, b < w.heap.size → S' b → S b) : Bs w' S v l := by
  obtain ⟨A, c, rfl, h1, h2, h3, h4, h5⟩ := h
  refine ⟨A, c, rfl, h1, h2, h3, h4, fun a ha hn => ?_⟩
  obtain ⟨p1, p2, p3, p4⟩ := h5 a ha hn
  refine ⟨p1, p2, Nat.lt_of_lt_of_le p3 hf.size, fun j hj => hf.cell (p4 j hj) ?_⟩
  rw [add_block]; exact fun h => p2 (hs _ p3 h)

section
variable {P : Program}
/-- Appending what is nil: nothing turns. -/
theorem run_append_nil (w : World) (t ty e : TypeId) (i : TypeInfo) (ht : P.underlying t = some (.slice e)) (hi : P.info? e = some i) (A : Option Addr) (n c c' : Nat) (hc : n ≤ c) :
    (Builtin.append_ #[t, t] ty #[.slice A n c, .slice none 0 c']).run P w = .ok (.slice A n c) w := by
  cases A with
  | none => simp [Builtin.append_, run_underlying ht, sizeOf, typeInfo, hi, Builtin.lenOf, hc, Builtin.firstCells]
  | some a => simp [Builtin.append_, run_underlying ht, sizeOf, typeInfo, hi, Builtin.lenOf, hc, Builtin.firstCells, storeCells]

/-- v' lies where v lay, or is new. -/
def Nx (w : World) (v v' : Value) : Prop := v'.ownBlock = v.ownBlock ∨ ∃ k, v'.ownBlock = some k ∧ w.heap.size ≤ k
theorem Nx.refl (w : World) (v : Value) : Nx w v v := .inl rfl
theorem Nx.trans {w w1 : World} {v v1 v2 : Value} (h : Nx w v v1) (k : Nx w1 v1 v2) (hs : w.heap.size ≤ w1.heap.size) : Nx w v v2 := by
  rcases k with k | ⟨b, k, hb⟩
  · rcases h with h | ⟨b, h, hb⟩
    · exact .inl (k.trans h)
    · exact .inr ⟨b, k.trans h, hb⟩
  · exact .inr ⟨b, k, Nat.le_trans hs hb⟩
/-- The frame of what may write v's own row. -/
abbrev FrV (v : Value) (w w' : World) : Prop := Fr (fun b => v.ownBlock = some b) w w'
theorem FrV.step {v v1 : Value} {w w1 w2 : World} (h : FrV v w w1) (hn : Nx w v v1) (k : FrV v1 w1 w2) : FrV v w w2 :=
  Fr.trans h k (fun b hb => by
    rcases hn with hn | ⟨c, hn, hc⟩
    · exact .inl (hn ▸ hb)
    · rw [hn] at hb; cases hb; exact .inr hc)

/-- An append to a row of the call's own, of a slice whatever it is. -/
theorem wp_app (w : World) {o : Oper} {a : Act} {K : Act → World → Prop} {Q : Exit → Act → World → Prop} (s x : Operand) (t : TypeId)
    (ho : o.op = .call { callee := .builtin .append, args := #[s, x], argTypes := #[t, t] })
    (e : TypeId) (z : Value) (size bytes : Nat) (ht : P.underlying t = some (.slice e)) (hinfo : (P.info? e).map (fun i => (i.zero, i.size, i.bytes)) = some (some z, size, bytes))
    (hzs : z.cells.size = size) (hsz : 0 < size)
    (v : Value) (n : Nat) (xs : List Value) (hs : a.eval s = v) (hown : w.ownsRow 0 e size v n xs)
    (A : Option Addr) (m c : Nat) (news : List Value) (hx : a.eval x = .slice A m c) (hl : news.length = m * size) (hA : A = none → m = 0) (hnews : ∀ ad, A = some ad → ∀ j u, news[j]? = some u → w.cell? (ad.add j) = some u) (h1 : ∀ u ∈ news, u.oneCell' = true)
    (hbytes : (n + m) * bytes ≤ 140737488355328) (hb0 : 0 < bytes)
    (h : ∀ v' w', w'.ownsRow 0 e size v' (n + m) (xs ++ news) → Nx w v v' → FrV v w w' → K (a.put o.dst v') w') : Oper.wp P o a w K Q := by
  obtain ⟨i, hi, hz0, hz1, hz2⟩ := info_parts hinfo
  have h63 : n + m ≤ maxLen := by
    have : n + m ≤ (n + m) * bytes := Nat.le_mul_of_pos_right _ hb0
    unfold maxLen; omega
  cases A with
  | some ad =>
    obtain ⟨v', w', hr, h2, h3, _, h5⟩ := run_append_own_at (P := P) w 0 t o.type e i z size bytes ht hi hz0 hz1 hz2 hzs hsz v n xs hown ad m c news hl (hnews ad rfl) h1 h63 hbytes (Nat.zero_le _)
    unfold Oper.wp execOp
    simp only [ho, resolve, invoke, builtin, Sem.run_bind, Sem.run_pure, Result.andThen_ok, List.map_toArray, List.map_cons, List.map_nil, hs, hx, hr]
    refine h v' w' h2 ?_ ((Fr.refl _ w).grown h3 (fun b hb => .inl hb))
    rcases h5 with h5 | h5
    · exact .inl h5
    · exact .inr ⟨_, h5, Nat.le_refl _⟩
  | none =>
    obtain rfl := hA rfl
    obtain rfl : news = [] := List.eq_nil_of_length_eq_zero (by simpa using hl)
    have hv : ∃ A c0, v = .slice A n c0 ∧ n ≤ c0 := by
      obtain ⟨_, ⟨rfl, rfl⟩ | ⟨g, cap, cur, rfl, _, _, hcap, _⟩⟩ := hown
      · exact ⟨_, _, rfl, Nat.le_refl _⟩
      · exact ⟨_, _, rfl, hcap⟩
    obtain ⟨A, c0, rfl, hc0⟩ := hv
    have hr := run_append_nil (P := P) w t o.type e i ht hi A n c0 c hc0
    unfold Oper.wp execOp
    simp only [ho, resolve, invoke, builtin, Sem.run_bind, Sem.run_pure, Result.andThen_ok, List.map_toArray, List.map_cons, List.map_nil, hs, hx, hr]
    exact h _ _ (by simpa using hown) (Nx.refl _ _) (Fr.refl _ w)
/-- .. as a step of a list of operations, and as a step of a region. -/
theorem wpList_of_wp {w : World} {ops : Array Oper} {rest : List Oper} {o : Oper} {a : Act} {Q : Exit → Act → World → Prop} (hgd : o.guard = none)
    (h : ∀ K : Act → World → Prop, (∀ a w, wpList P ops Q rest a w → K a w) → Oper.wp P o a w K Q) : wpList P ops Q (o :: rest) a w :=
  wpList_plain hgd fun K hK => h K hK
theorem step_of_wp {w : World} {ops : Array Oper} {o : Oper} {a : Act} {K : Act → World → Prop} {Q : Exit → Act → World → Prop} {E : Prop} (hg : o.guard = none)
    (h : Oper.wp P o a w K Q) : if Region.wanted o (yielded ops a.tmps) = true then Oper.wp P o a w K Q else E := by
  rw [if_pos (by simp [Region.wanted, hg])]; exact h
end

def u8s (l : List Int) : List Value := l.map (Value.int .u8)
theorem u8s_length (l : List Int) : (u8s l).length = l.length := by simp [u8s]
theorem u8s_one (l : List Int) : ∀ u ∈ u8s l, u.oneCell' = true := by intro u hu; obtain ⟨x, _, rfl⟩ := List.mem_map.1 hu; rfl
theorem u8s_append (l k : List Int) : u8s l ++ u8s k = u8s (l ++ k) := by simp [u8s]
def isB (l : List Int) : Prop := ∀ x ∈ l, 0 ≤ x ∧ x < 256

/-- A row of bytes of the call's own. -/
def Ob (w : World) (v : Value) (l : List Int) : Prop := w.ownsRow 0 5 1 v l.length (u8s l) ∧ isB l
theorem Ob.nil (w : World) : Ob w (.slice none 0 0) [] := ⟨World.ownsRow_nil _ _ _ _, fun x h => by cases h⟩
theorem Ob.empty (w : World) : Ob (w.alloc (.cells #[] 5)) (.slice (some ⟨w.heap.size, 0, none⟩) 0 0) [] := ⟨World.ownsRow_made w #[] 0 (Nat.zero_le _) (by decide) rfl, fun x h => by cases h⟩
theorem Ob.bs {w : World} {v : Value} {l : List Int} (h : Ob w v l) {S : Nat → Prop} (hS : ∀ b, v.ownBlock = some b → ¬ S b) : Bs w S v l := by
  obtain ⟨h, hb⟩ := h
  obtain ⟨_, ⟨rfl, hn⟩ | ⟨g, cap, cur, rfl, hg, hh, hcap, hmax, hsz, ht⟩⟩ := id h
  · obtain rfl : l = [] := List.eq_nil_of_length_eq_zero hn
    exact Bs.nil _ _
  · refine ⟨some ⟨g, 0, none⟩, cap, rfl, by omega, hmax, (fun h => by cases h), hb, fun a ha hn => ?_⟩
    obtain rfl : (⟨g, 0, none⟩ : Addr) = a := by injection ha
    refine ⟨rfl, hS g rfl, (Array.getElem?_eq_some_iff.1 hh).1, fun j hj => ?_⟩
    exact h.cells (g := g) rfl j _ (by simp [u8s, List.getElem?_map, List.getD_eq_getElem?_getD, List.getElem?_eq_getElem hj])
theorem Ob.slice {w : World} {v : Value} {l : List Int} (h : Ob w v l) : ∃ A c, v = .slice A l.length c := by
  obtain ⟨⟨_, ⟨rfl, hn⟩ | ⟨g, cap, cur, rfl, _⟩⟩, _⟩ := h
  · exact ⟨none, 0, by rw [hn]⟩
  · exact ⟨_, _, rfl⟩
theorem Ob.lt {w : World} {v : Value} {l : List Int} (h : Ob w v l) : ∀ b, v.ownBlock = some b → b < w.heap.size := fun b hb => (h.1.lt b hb).2
theorem own_fr {w w' : World} {e size n : Nat} {v : Value} {xs : List Value} (h : w.ownsRow 0 e size v n xs) {S : Nat → Prop} (hf : Fr S w w') (hS : ∀ b, v.ownBlock = some b → ¬ S b) : w'.ownsRow 0 e size v n xs := by
  obtain ⟨h1, h2 | ⟨g, cap, cur, rfl, hg, hh, r⟩⟩ := h
  · exact ⟨h1, .inl h2⟩
  · exact ⟨h1, .inr ⟨g, cap, cur, rfl, hg, hf.obj hh (hS g rfl), r⟩⟩
theorem Ob.fr {w w' : World} {v : Value} {l : List Int} (h : Ob w v l) {S : Nat → Prop} (hf : Fr S w w') (hS : ∀ b, v.ownBlock = some b → ¬ S b) : Ob w' v l := ⟨own_fr h.1 hf hS, h.2⟩
/-- A literal of bytes. -/
theorem Ob.lit (w : World) (l : List Int) (hb : isB l) (hl : l.length ≤ 140737488355328) : Ob (w.alloc (.cells (u8s l).toArray 5)) (.slice (some ⟨w.heap.size, 0, none⟩) l.length l.length) l :=
  ⟨⟨by rw [u8s_length, Nat.mul_one], .inr ⟨w.heap.size, l.length, (u8s l).toArray, rfl, Nat.zero_le _, heap_alloc_new w _, Nat.le_refl _, by unfold maxLen; omega, by simp [u8s_length], by simp [List.take_of_length_le, u8s_length]⟩⟩, hb⟩

theorem Bs.news {w : World} {S : Nat → Prop} {A : Option Addr} {n c : Nat} {l : List Int} (h : Bs w S (.slice A n c) l) :
    n = l.length ∧ l.length ≤ c ∧ c ≤ maxLen ∧ isB l ∧ (A = none → n = 0) ∧ (u8s l).length = n * 1 ∧ ∀ ad, A = some ad → ∀ j u, (u8s l)[j]? = some u → w.cell? (ad.add j) = some u := by
  obtain ⟨A', c', hv, h1, h2, h3, h4, h5⟩ := h
  injection hv with e1 e2 e3
  subst e1 e2 e3
  refine ⟨rfl, h1, h2, h4, fun hA => by have := h3 hA; omega, by rw [u8s_length, Nat.mul_one], fun ad hA j u hj => ?_⟩
  have hjl : j < l.length := by have := (List.getElem?_eq_some_iff.1 hj).1; rwa [u8s_length] at this
  have := (h5 ad hA (by omega)).2.2.2 j hjl
  rw [this]
  simpa [u8s, List.getElem?_map, List.getD_eq_getElem?_getD, List.getElem?_eq_getElem hjl] using hj
/-- A cut of a reading. -/
theorem Bs.cut {w : World} {S : Nat → Prop} {A : Option Addr} {n c : Nat} {l : List Int} (h : Bs w S (.slice A n c) l) {i j : Nat} (hij : i ≤ j) (hj : j ≤ l.length) :
    Bs w S (.slice (if c = i then A else A.map (·.add i)) (j - i) (c - i)) ((l.take j).drop i) := by
  obtain ⟨A', c', hv, h1, h2, h3, h4, h5⟩ := h
  injection hv with e1 e2 e3
  subst e1 e2 e3
  have hlen : ((l.take j).drop i).length = j - i := by simp; omega
  refine ⟨_, _, by rw [hlen], by omega, by omega, fun hA => ?_, fun x hx => h4 x (List.mem_of_mem_take (List.mem_of_mem_drop hx)), fun a ha hn => ?_⟩
  · split at hA
    · omega
    · have := h3 (by simpa using hA); omega
  · split at ha
    · omega
    · obtain ⟨a0, rfl, rfl⟩ : ∃ a0, A = some a0 ∧ a0.add i = a := by simpa using ha
      obtain ⟨p1, p2, p3, p4⟩ := h5 a0 rfl (by omega)
      refine ⟨?_, by rw [add_block]; exact p2, by rw [add_block]; exact p3, fun k hk => ?_⟩
      · unfold Addr.add; split <;> simp [p1]
      · have hkl : i + k < l.length := by omega
        have := p4 (i + k) hkl
        rw [show (a0.add i).add k = a0.add (i + k) from ?_, this]
        · simp [List.getD_eq_getElem?_getD, List.getElem?_drop, List.getElem?_take, show i + k < j by omega]
        · unfold Addr.add; split <;> split <;> split <;> simp_all <;> omega

theorem new_cells (W : World) (us : List Value) (e : TypeId) : ∀ ad, some (⟨W.heap.size, 0, none⟩ : Addr) = some ad → ∀ j u, us[j]? = some u → (W.alloc (.cells us.toArray e)).cell? (ad.add j) = some u := by
  intro ad had j u hj
  obtain rfl : (⟨W.heap.size, 0, none⟩ : Addr) = ad := by injection had
  have : (⟨W.heap.size, 0, none⟩ : Addr).add j = ⟨W.heap.size, j, none⟩ := by unfold Addr.add; split <;> simp_all
  rw [this, cell_of_row _ _ _ _ _ _ (heap_alloc_new W _)]
  simpa using hj
theorem isB.append {l m : List Int} (h : isB l) (k : isB m) : isB (l ++ m) := fun x hx => (List.mem_append.1 hx).elim (h x) (k x)

theorem Try.info5 : (Try.prog.info? 5).map (fun i => (i.zero, i.size, i.bytes)) = some (some (.int .u8 0), 1, 1) := by kernel_rfl
/-- Bytes behind bytes of the call's own. -/
theorem wp_appB {w : World} {o : Oper} {a : Act} {K : Act → World → Prop} {Q : Exit → Act → World → Prop} (s x : Operand)
    (ho : o.op = .call { callee := .builtin .append, args := #[s, x], argTypes := #[22, 22] })
    {v xv : Value} {l m : List Int} (hs : a.eval s = v) (hown : Ob w v l) {S : Nat → Prop} (hx : a.eval x = xv) (hb : Bs w S xv m) (hl : l.length + m.length ≤ 140737488355328)
    (h : ∀ v' w', Ob w' v' (l ++ m) → Nx w v v' → FrV v w w' → K (a.put o.dst v') w') : Oper.wp Try.prog o a w K Q := by
  obtain ⟨A, c, rfl, -⟩ := id hb
  obtain ⟨-, -, -, h4, hA, hn1, hn2⟩ := hb.news
  refine wp_app w s x 22 ho 5 (.int .u8 0) 1 1 Try.underlying22 Try.info5 rfl (by decide) v l.length (u8s l) hs hown.1 A m.length c (u8s m) hx hn1 hA hn2 (u8s_one m) (by omega) (by decide) (fun v' w' h1 h2 h3 => h v' w' ⟨?_, hown.2.append h4⟩ h2 h3)
  rw [List.length_append, ← u8s_append]; exact h1
/-- One byte behind bytes of the call's own. -/
theorem wp_app1 {w : World} {o : Oper} {a : Act} {K : Act → World → Prop} {Q : Exit → Act → World → Prop} (s x : Operand)
    (ho : o.op = .call { callee := .builtin .append, args := #[s, x], argTypes := #[22, 22] })
    {v : Value} {l : List Int} {k : Int} (hs : a.eval s = v) (hown : Ob w v l) (hx : a.eval x = .slice (some ⟨w.heap.size, 0, none⟩) 1 1) (h0 : 0 ≤ k) (h1 : k < 256) (hl : l.length + 1 ≤ 140737488355328)
    (h : ∀ v' w', Ob w' v' (l ++ [k]) → Nx w v v' → FrV v w w' → K (a.put o.dst v') w') : Oper.wp Try.prog o a (w.alloc (.cells #[.int .u8 k] 5)) K Q := by
  have hal : Fr (fun _ => False) w (w.alloc (.cells #[.int .u8 k] 5)) := (Fr.refl _ w).alloc _
  refine wp_app _ s x 22 ho 5 (.int .u8 0) 1 1 Try.underlying22 Try.info5 rfl (by decide) v l.length (u8s l) hs (own_fr hown.1 hal (fun _ _ h => h)) (some ⟨w.heap.size, 0, none⟩) 1 1 [.int .u8 k] hx rfl (fun h => by cases h) (new_cells w [.int .u8 k] 5) (by intro u hu; obtain rfl := List.mem_singleton.1 hu; rfl) (by omega) (by decide) (fun v' w' h1' h2 h3 => h v' w' ⟨?_, hown.2.append ?_⟩ ?_ ?_)
  · rw [List.length_append, ← u8s_append]; exact h1'
  · intro x hx; obtain rfl := List.mem_singleton.1 hx; exact ⟨h0, h1⟩
  · rcases h2 with h2 | ⟨b, h2, hb⟩
    · exact .inl h2
    · exact .inr ⟨b, h2, Nat.le_trans hal.size hb⟩
  · exact Fr.trans (S := fun b => v.ownBlock = some b) ((Fr.refl _ w).alloc _) h3 (fun b hb => .inl hb)
theorem wpList_appB {w : World} {ops : Array Oper} {rest : List Oper} {o : Oper} {a : Act} {Q : Exit → Act → World → Prop} (hgd : o.guard = none) (s x : Operand)
    (ho : o.op = .call { callee := .builtin .append, args := #[s, x], argTypes := #[22, 22] })
    {v xv : Value} {l m : List Int} (hs : a.eval s = v) (hown : Ob w v l) {S : Nat → Prop} (hx : a.eval x = xv) (hb : Bs w S xv m) (hl : l.length + m.length ≤ 140737488355328)
    (h : ∀ v' w', Ob w' v' (l ++ m) → Nx w v v' → FrV v w w' → wpList Try.prog ops Q rest (a.put o.dst v') w') : wpList Try.prog ops Q (o :: rest) a w :=
  wpList_of_wp hgd fun _ hK => wp_appB s x ho hs hown hx hb hl (fun v' w' h1 h2 h3 => hK _ _ (h v' w' h1 h2 h3))
theorem wpList_app1 {w : World} {ops : Array Oper} {rest : List Oper} {o : Oper} {a : Act} {Q : Exit → Act → World → Prop} (hgd : o.guard = none) (s x : Operand)
    (ho : o.op = .call { callee := .builtin .append, args := #[s, x], argTypes := #[22, 22] })
    {v : Value} {l : List Int} {k : Int} (hs : a.eval s = v) (hown : Ob w v l) (hx : a.eval x = .slice (some ⟨w.heap.size, 0, none⟩) 1 1) (h0 : 0 ≤ k) (h1 : k < 256) (hl : l.length + 1 ≤ 140737488355328)
    (h : ∀ v' w', Ob w' v' (l ++ [k]) → Nx w v v' → FrV v w w' → wpList Try.prog ops Q rest (a.put o.dst v') w') : wpList Try.prog ops Q (o :: rest) a (w.alloc (.cells #[.int .u8 k] 5)) :=
  wpList_of_wp hgd fun _ hK => wp_app1 s x ho hs hown hx h0 h1 hl (fun v' w' h1 h2 h3 => hK _ _ (h v' w' h1 h2 h3))
/-- A region that draws its order and reads, but for its forced end: the world behind a variable. -/
theorem wp_region_tail {P : Program} {id : Nat} {Q : Exit → Act → World → Prop} {a : Act} {w : World} {l : List Oper} (n : Nat) (hm : P.follows .mixedOrders = true) (hB : Region.lexTailB .any l.toArray n = true)
    (h : ∀ w2, w2 = w.drew → wpStill P l.toArray w2 (fun a' => wpList P l.toArray Q (l.drop n) a' w2) (l.take n) a) : (Code.region id l.toArray true).wp P Q a w :=
  wp_region_still_tail n hm hB (h _ rfl)

/-- A cut of a slice of one-cell elements runs. -/
theorem cut_mid {P : Program} (t e : TypeId) (kl kh : IntKind) {z : Value} {b size : Nat} (ht : P.underlying t = some (.slice e)) (hinfo : (P.info? e).map (fun i => (i.zero, i.size, i.bytes)) = some (some z, size, b)) (A : Option Addr) (n c : Nat) (lo hi' : Int) (h0 : 0 ≤ lo) (h1 : lo ≤ hi') (h2 : hi' ≤ n) (hc : n ≤ c) :
    ∀ W : World, (Instr.slice t (.slice A n c) (some (.int kl lo)) (some (.int kh hi')) none).run P W = .ok (.slice (if c = lo.toNat then A else A.map (·.add (lo.toNat * size))) (hi'.toNat - lo.toNat) (c - lo.toNat)) W := by
  obtain ⟨i, hi, hz0, hz1, hz2⟩ := info_parts hinfo
  intro W
  have hel : P.elem t = e := by simp [Program.elem, ht]
  have hu : P.underlying t = some (.slice (P.elem t)) := by rw [hel]; exact ht
  rw [run_slice_lh W t A n c hu kl kh lo hi' h0 h1 (by omega), hel]
  simp [sizeOf, typeInfo, hi, hz1, sliced, Result.andThen]

theorem Bs.mono_l {w : World} {S S' : Nat → Prop} {v : Value} {l l' : List Int} (h : Bs w S v l) (hl : l = l') (hs : ∀ b, S' b → S b) : Bs w S' v l' := by
  subst hl
  obtain ⟨A, c, h0, h1, h2, h3, h4, h5⟩ := h
  exact ⟨A, c, h0, h1, h2, h3, h4, fun a ha hn => ⟨(h5 a ha hn).1, fun h => (h5 a ha hn).2.1 (hs _ h), (h5 a ha hn).2.2⟩⟩
end Go.Proofs.Ytgfhhnmhpncnlaa
