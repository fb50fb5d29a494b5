/-
  A range over a function whose iterator turns cells of its own between two rounds. No condition.
-/
import Derived.Test.YtnljjlaececnkaaGreatDoorI
import Derived.RangeFuncNested
import Derived.RangeFuncBound
import Derived.RangeFuncCalls
import Derived.RangeFuncLeaves
import Derived.Shelf.Abstract
import Derived.Shelf.RegionOpen
import Derived.OwnWalkIn
import Derived.TacticsInMore
import Derived.LoopNIn
import Derived.LoopIn
import Derived.RangeFuncBox
namespace Go.Proofs.YtnljjlaececnkaaGreatDoor
open Go.RowKit Go.Shelf
set_option linter.unusedVariables false
set_option linter.unusedSimpArgs false
section
variable {α : Type} {F : Fence} {n : Nat} {P : Program}
/-- What an iterator owes that turns (T) cells of its own between the rounds; Kp: what a round that goes on keeps for it. -/
def SeqT (F : Fence) (n : Nat) (P : Program) (g : Nat) (lb : Array Value) (enc : α → Value) (T Kp : World → World → Prop) (G : List α → α → Prop) (S Sp : List α → Prop) (w : World) : Prop :=
  ∀ (l : Nat) (J Jx : List α → World → Prop) (W : World), Below w.heap.size w W → (∀ s A B, J s A → T A B → J s B) → (∀ s A B, Jx s A → T A B → Jx s B) →
    (∀ pre x W1, J pre W1 → G pre x → YieldAt F (n - 1) P l #[enc x] W1 fun e W' => (e = .returned (.bool true) ∧ J (pre ++ [x]) W' ∧ Kp W1 W') ∨ (e = .returned (.bool false) ∧ Jx (pre ++ [x]) W')) →
    J [] W →
    CallsIn F n P g (#[.func (.yield l) #[] #[]] ++ lb) W fun e W' => (∃ v, e = .returned v) ∧ ((∃ xs, S xs ∧ J xs W') ∨ (∃ pre, Sp pre ∧ Jx pre W'))
/-- The law of the statement. -/
theorem wpIn_rangeFunc_T {g : Operand} {ps : Array Tmp} {assign body : Code} {Q : Exit → Act → World → Prop} {a : Act} {w : World}
    (hro : F.round = none) (h1 : 1 ≤ n) {gf : Nat} {lb : Array Value} (hg : a.eval g = .func (.func gf) #[] lb) (hFg : F.fn gf) (eg : ∀ args w, (callFunc gf args).run P w = .ok (.enter gf args) w)
    {enc : α → Value} {T Kp : World → World → Prop} {G : List α → α → Prop} {S Sp : List α → Prop} (hseq : SeqT F (n - 1) P gf lb enc T Kp G S Sp w) (hps : ps.size = 1)
    (hT : ∀ A B, T A B → ∀ k, w.heap.size ≤ k → B.heap[k]? = A.heap[k]?) (hKt : ∀ A B C, Kp A B → Kp B C → Kp A C) (hKp : ∀ W l o, w.heap.size ≤ l → Kp W (W.putObj l o))
    (I : List α → World → Prop) (Ix : Code → List α → World → Prop) (hI : ∀ s A B, I s A → T A B → I s B) (hIx : ∀ c s A B, Ix c s A → T A B → Ix c s B)
    (hIp : OwnFrom w.heap.size I) (hIxp : ∀ c, OwnFrom w.heap.size (Ix c)) (h0 : I [] w) (a₁ : α → Act)
    (hassign : ∀ (l : Nat) (x : α) (W : World) (K : Act → World → Prop), K (a₁ x) W →
      assign.wpIn (F.inRound l) (n - 1 - 1) P (Exit.then K (fun _ _ _ => False)) { tmps := (ps.zip #[enc x]).foldl (fun t (p, v) => t.setIfInBounds p v) a.tmps, defers := [] } W)
    (hbody : ∀ (l : Nat) (pre : List α) (x : α) (W : World), I pre W → G pre x → body.wpIn (F.inRound l) (n - 1 - 1) P (ownPostG w.heap.size Kp I Ix (pre ++ [x]) W) (a₁ x) W)
    (hdone : ∀ (D : Nat) (xs : List α) (W : World), w.heap.size ≤ D → S xs → I xs W → W.heap[D]? = some (.deferred (some [])) → Q .normal { a with defers := { target := .collected D, args := #[] } :: a.defers } W)
    (hstop : ∀ (D : Nat) (c : Code) (pre : List α) (W : World), w.heap.size ≤ D → Sp pre → Ix c pre W → W.heap[D]? = some (.deferred (some [])) → c.wpIn F n P Q { a with defers := { target := .collected D, args := #[] } :: a.defers } W) :
    (Code.rangeFunc g ps assign body).wpIn F n P Q a w := by
  refine wpIn_rangeFunc fun fn hfn => ?_
  rw [hro]
  obtain ⟨L, hL⟩ : ∃ L : LoopState → Option Code → Loop, L = fun st pe => { state := st, pending := pe, fn, tmps := a.tmps, params := ps, assign, body, defers := w.heap.size } := ⟨_, rfl⟩
  have hz : ∀ W : World, (∃ o', W.heap[w.heap.size + 1]? = some (Obj.loop o')) → w.heap.size + 1 < W.heap.size := fun W ⟨_, h⟩ => (Array.getElem?_eq_some_iff.1 h).1
  have n1 : w.heap.size ≠ w.heap.size + 1 := by omega
  have hl1 : ((w.alloc (.deferred (some []))).alloc (.loop (L .ready none))).heap[w.heap.size + 1]? = some (.loop (L .ready none)) := heap_two w _ _
  have hd1 : ((w.alloc (.deferred (some []))).alloc (.loop (L .ready none))).heap[w.heap.size]? = some (.deferred (some [])) := box21 w _ _
  refine ⟨w.heap.size + 1, [{ target := .collected w.heap.size, args := #[] }], (w.alloc (.deferred (some []))).alloc (.loop (L .ready none)), { target := .fn (.func gf) lb, args := #[.func (.yield (w.heap.size + 1)) #[] #[]] }, (w.alloc (.deferred (some []))).alloc (.loop (L .ready none)), gf,
    #[.func (.yield (w.heap.size + 1)) #[] #[]] ++ lb, (w.alloc (.deferred (some []))).alloc (.loop (L .ready none)), ?_, ?_, ?_, ?_, fun _ => h1, ?_⟩
  · rw [hL]; exact run_enterLoop_outer _ _ _ _ _
  · simp only [resolve, hg]
    simp [go_sem]
  · intro f' hf'; simp [Target.leads] at hf'; subst hf'; exact hFg
  · simp [invoke, go_sem, eg]
  · refine (hseq (w.heap.size + 1) (fun pre W => I pre W ∧ W.heap[w.heap.size + 1]? = some (.loop (L .ready none)) ∧ W.heap[w.heap.size]? = some (.deferred (some [])))
      (fun pre W => ∃ c, Ix c pre W ∧ W.heap[w.heap.size + 1]? = some (.loop (L .done (some c))) ∧ W.heap[w.heap.size]? = some (.deferred (some [])))
      _ (((Below.refl _ w).alloc (Nat.le_refl _) _).alloc (by simp) _)
      (fun s A B hs ht => ⟨hI s A B hs.1 ht, (hT A B ht _ (by omega)).trans hs.2.1, (hT A B ht _ (Nat.le_refl _)).trans hs.2.2⟩)
      (fun s A B hs ht => hs.imp fun c hc => ⟨hIx c s A B hc.1 ht, (hT A B ht _ (by omega)).trans hc.2.1, (hT A B ht _ (Nat.le_refl _)).trans hc.2.2⟩)
      (fun pre x W hJ hG => ?_) ⟨hIp.alloc _ (hIp.alloc _ h0), hl1, hd1⟩).mono fun e W2 h => ?_
    · obtain ⟨hi, hl, hk⟩ := hJ
      have hlt := hz W ⟨_, hl⟩
      have hy := run_yield (P := P) (args := #[enc x]) hl (by rw [hL]; exact hps.symm)
      rw [hL] at hy
      refine ⟨fn, _, assign, body, hy, roundIn_of_wpIn hfn (hassign _ x W _ ⟨_, run_beginRound hl (by rw [hL]), ?_⟩)⟩
      have hl2 : (W.putObj (w.heap.size + 1) (.loop { L .ready none with state := .busy })).heap[w.heap.size + 1]? = some (.loop { L .ready none with state := .busy }) := World.putObj_heap_same hlt
      have hk2 : (W.putObj (w.heap.size + 1) (.loop { L .ready none with state := .busy })).heap[w.heap.size]? = some (.deferred (some [])) := (World.putObj_heap_other n1).trans hk
      refine wpIn_mono (hbody _ pre x _ (hIp.putObj _ hi (by omega) hl rfl) hG) fun e a3 W3 hp => ?_
      have fin : ∀ jump : Option Code, KeepsFrom w.heap.size (W.putObj (w.heap.size + 1) (.loop { L .ready none with state := .busy })) W3 →
          (Instr.endRound (w.heap.size + 1) jump).run P W3 = .ok (.bool jump.isNone) (W3.putObj (w.heap.size + 1) (.loop (L (if jump.isNone then .ready else .done) jump))) ∧
          W3.heap[w.heap.size + 1]? = some (.loop { L .ready none with state := .busy }) ∧
          (W3.putObj (w.heap.size + 1) (.loop (L (if jump.isNone then .ready else .done) jump))).heap[w.heap.size + 1]? = some (.loop (L (if jump.isNone then .ready else .done) jump)) ∧
          (W3.putObj (w.heap.size + 1) (.loop (L (if jump.isNone then .ready else .done) jump))).heap[w.heap.size]? = some (.deferred (some [])) := fun jump k3 => by
        have l3 := k3.same _ _ (by omega) hl2 rfl
        have r := run_endRound (P := P) jump l3
        rw [hL] at r l3 ⊢
        exact ⟨r, l3, World.putObj_heap_same (hz W3 ⟨_, l3⟩), (World.putObj_heap_other n1).trans (k3.same _ _ (Nat.le_refl _) hk2 rfl)⟩
      cases e with
      | normal =>
        obtain ⟨k3, kp3, i3⟩ := hp
        obtain ⟨r, l3, l4, d4⟩ := fin none k3
        exact ⟨_, _, r, .inl ⟨rfl, ⟨hIp.putObj _ i3 (by omega) l3 rfl, l4, d4⟩, hKt _ _ _ (hKp W _ _ (by omega)) (hKt _ _ _ kp3 (hKp W3 _ _ (by omega)))⟩⟩
      | ret =>
        obtain ⟨k3, i3⟩ := hp
        obtain ⟨r, l3, l4, d4⟩ := fin (some .ret) k3
        exact ⟨_, _, r, .inr ⟨rfl, .ret, (hIxp _).putObj _ i3 (by omega) l3 rfl, l4, d4⟩⟩
      | exit id =>
        obtain ⟨k3, i3⟩ := hp
        obtain ⟨r, l3, l4, d4⟩ := fin (some (.exit id)) k3
        exact ⟨_, _, r, .inr ⟨rfl, .exit id, (hIxp _).putObj _ i3 (by omega) l3 rfl, l4, d4⟩⟩
      | goto t =>
        obtain ⟨k3, i3⟩ := hp
        obtain ⟨r, l3, l4, d4⟩ := fin (some (.goto t)) k3
        exact ⟨_, _, r, .inr ⟨rfl, .goto t, (hIxp _).putObj _ i3 (by omega) l3 rfl, l4, d4⟩⟩
      | panic ch => exact hp.elim
      | outgrown => exact hp.elim
    · obtain ⟨⟨v, rfl⟩, hh⟩ := h
      rcases hh with ⟨xs, hS, hi, hl, hk⟩ | ⟨pre, hSp, c, hi, hl, hk⟩
      · exact ⟨none, _, by have := run_endLoop (P := P) hl (by rw [hL]; simp); rw [hL] at this; exact this, hdone _ xs _ (Nat.le_refl _) hS (hIp.putObj _ hi (by omega) hl rfl) ((World.putObj_heap_other n1).trans hk)⟩
      · exact ⟨some c, _, by have := run_endLoop (P := P) hl (by rw [hL]; simp); rw [hL] at this; exact this, hstop _ c pre _ (Nat.le_refl _) hSp ((hIxp c).putObj _ hi (by omega) hl rfl) ((World.putObj_heap_other n1).trans hk)⟩
end
end Go.Proofs.YtnljjlaececnkaaGreatDoor
