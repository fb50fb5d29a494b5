/-
  Merged texts (RU, KMonitorApplied, JF, JG), part 12 of 12. Conditions: each part's own, told at its head.
-/
import Derived.Test.YtnljjlaececnkaaGreatDoorBMP1
import Derived.Test.YtnljjlaececnkaaGreatDoorBMP2
import Derived.Test.YtnljjlaececnkaaGreatDoorBMP3
import Derived.Test.YtnljjlaececnkaaGreatDoorBMP4
import Derived.Test.YtnljjlaececnkaaGreatDoorBMP5
import Derived.Test.YtnljjlaececnkaaGreatDoorBMP6
import Derived.Test.YtnljjlaececnkaaGreatDoorBMP7
import Derived.Test.YtnljjlaececnkaaGreatDoorBMP8
import Derived.Test.YtnljjlaececnkaaGreatDoorBMP9
import Derived.Test.YtnljjlaececnkaaGreatDoorBMP10
import Derived.Test.YtnljjlaececnkaaGreatDoorBMP11
import Derived.KernelRfl
import Derived.Deep.QuietTactic
import Derived.BigQuiet
import Derived.Test.YtnljjlaececnkaaGreatDoorRows
import Derived.JoinedOf
import Derived.SevenTiedAt
/-
  Known calls for the symbolic runs: Words, Number, Join. Condition: the variables hold what their initialisers laid.
-/
namespace Go.Proofs.YtnljjlaececnkaaGreatDoor
open Go.RowKit Go.Rn
set_option linter.unusedVariables false
set_option linter.unusedSimpArgs false
section
variable {w0 : World} {r : Ren} {h : Tr SObj} {nx : Nat} {w : World}
theorem back_bare {f : FuncId} {args : Array Value} {v : Value} (D : Den 0 w0 r h nx w) (hc : Calls Tryz.prog f args w fun e w' => e = .returned v ∧ Below w.heap.size w w') (hv : bare v = true) : Calls Tryz.prog f args w (Back 0 w0 r nx v h nx) :=
  hc.mono fun e w' he => ⟨r, by rw [he.1, bare_ren hv], Agree.refl _ _, Nat.le_refl _, bare_lt hv, D.more he.2⟩
theorem bare_strs : ∀ xs : List ByteArray, bareL (strs xs) = true
  | [] => rfl
  | x :: xs => by
    show (bare (.string x) && bareL (strs xs)) = true
    rw [bare_strs xs]; rfl
theorem strs_len (xs : List ByteArray) : (strs xs).length = xs.length := by simp [strs]
theorem words_back (D : Den 0 w0 r h nx w) (hbig : nx + 1 < capB) {s : ByteArray} {ws : List ByteArray} (hs : s.size < 4294967281) (hn : 0 < ws.length) (hsp : WSpec s (ws, 0)) :
    Calls Tryz.prog 21 #[.string s] w (Back 0 w0 r nx (.tuple #[.slice (some ⟨nx, 0, none⟩) ws.length (capB + nx * 65536), .int .i64 0]) (h.set nx (.cells (strs ws) 9 1)) (nx + 1)) := by
  refine (words_any hs hsp).mono ?_
  rintro e w' ⟨v, rfl, ho, lo, bel⟩
  obtain ⟨hl, ⟨rfl, h0⟩ | ⟨g, cap, cur, rfl, -, hh, hnc, hcm, hcs, htake⟩⟩ := ho
  · simp only at h0; omega
  · have hg : w.heap.size ≤ g := lo g rfl
    have hlt : g < w'.heap.size := (Array.getElem?_eq_some_iff.1 hh).1
    have hfree : ∀ i, h.get i ≠ none → r.blk i ≠ g := fun i hi e => by
      have := (D.low i (Nat.zero_le _) (D.dom i hi)).2; omega
    have hcur : cur.toList = strs ws ++ cur.toList.drop (ws.length * 1) := by rw [← htake, List.take_append_drop]
    refine ⟨Den.newR r nx g cap, ?_, Den.newR_agree r nx g cap, Nat.le_succ _, ?_, (D.more bel).lay hbig ⟨Nat.le_trans D.bel.size hg, hlt⟩ hfree (bareL_lt (bare_strs ws)) ⟨cur.toList.drop (ws.length * 1), ?_, ?_⟩⟩
    · simp only [ren, renA, renL, Ren.addr, capOf_open]
      simp [Den.newR]
    · simp only [Lt, LtA, LtL]
      exact ⟨⟨Nat.lt_succ_self _, fun _ => by rw [open_lt]; exact Nat.lt_succ_self _⟩, trivial, trivial⟩
    · have e1 : (Den.newR r nx g cap).blk nx = g := by simp [Den.newR]
      rw [e1, bareL_ren (bare_strs ws), ← hcur, hh]
    · rw [if_neg (by decide)]
      have e2 : (Den.newR r nx g cap).cap nx = cap := by simp [Den.newR]
      rw [e2]
      refine ⟨?_, hcm⟩
      have h3 : cur.toList.length = cap := by rw [Array.length_toList, hcs, Nat.mul_one]
      simp only at hnc
      rw [strs_len, List.length_drop, h3]
      omega
end
def dumpT : ByteArray := ⟨#[100, 117, 109, 112, 32, 114, 111, 117, 116, 101, 115]⟩
def annT : ByteArray := ⟨#[97, 110, 110, 111, 117, 110, 99, 101, 32, 49, 48, 46, 48, 46, 48, 46, 48, 47, 56, 32, 109, 101, 116, 114, 105, 99, 32, 53]⟩
def upT : ByteArray := ⟨#[117, 112]⟩
def dumpW : List ByteArray := [⟨#[100, 117, 109, 112]⟩, ⟨#[114, 111, 117, 116, 101, 115]⟩]
def annW : List ByteArray := [⟨#[97, 110, 110, 111, 117, 110, 99, 101]⟩, ⟨#[49, 48, 46, 48, 46, 48, 46, 48, 47, 56]⟩, ⟨#[109, 101, 116, 114, 105, 99]⟩, ⟨#[53]⟩]
def upW : List ByteArray := [⟨#[117, 112]⟩]
def selfL : List ByteArray := [⟨#[115, 101, 108, 102]⟩, ⟨#[48, 48, 58, 48, 48, 58, 48, 48, 58, 48, 48, 58, 48, 48, 58, 48, 48, 58, 48, 48, 58, 48, 49]⟩, ⟨#[115, 101, 113, 110, 111]⟩, ⟨#[53]⟩]
def selfT : ByteArray := ⟨#[115, 101, 108, 102, 32, 48, 48, 58, 48, 48, 58, 48, 48, 58, 48, 48, 58, 48, 48, 58, 48, 48, 58, 48, 48, 58, 48, 49, 32, 115, 101, 113, 110, 111, 32, 53]⟩
theorem dump_spec : WSpec dumpT (dumpW, 0) := words_run 400 (by decide) (R := (dumpW.map (·.data.toList), 0)) (by decide +kernel)
theorem ann_spec : WSpec annT (annW, 0) := words_run 400 (by decide) (R := (annW.map (·.data.toList), 0)) (by decide +kernel)
theorem up_spec : WSpec upT (upW, 0) := words_run 400 (by decide) (R := (upW.map (·.data.toList), 0)) (by decide +kernel)
theorem num5 : NumR ⟨#[53]⟩ 65534 = .tuple #[.int .i64 5, .bool true] := by unfold NumR; kernel_rfl
theorem self_join : joinB selfL = selfT := by kernel_rfl
/-- The words of a known line. -/
noncomputable def wordsRes (ws : List ByteArray) (h : Tr SObj) (nx : Nat) : Option (Value × Tr SObj × Nat) := cond (Nat.blt (nx + 1) capB) (some (.tuple #[.slice (some ⟨nx, 0, none⟩) ws.length (capB + nx * 65536), .int .i64 0], h.set nx (.cells (strs ws) 9 1), nx + 1)) none
noncomputable def orcWords (s : ByteArray) (h : Tr SObj) (nx : Nat) : Option (Value × Tr SObj × Nat) :=
  cond (strEq s.data.toList dumpT.data.toList) (wordsRes dumpW h nx) (cond (strEq s.data.toList annT.data.toList) (wordsRes annW h nx) (cond (strEq s.data.toList upT.data.toList) (wordsRes upW h nx) none))
noncomputable def orcNum (s : ByteArray) (k : Int) (h : Tr SObj) (nx : Nat) : Option (Value × Tr SObj × Nat) :=
  cond (strEq s.data.toList [53] && decide (k = 65534)) (some (.tuple #[.int .i64 5, .bool true], h, nx)) none
noncomputable def orcJoin (b n : Nat) (h : Tr SObj) (nx : Nat) : Option (Value × Tr SObj × Nat) :=
  match h.get b with
  | some (.cells c _ _) => cond (veqL c (strs selfL) && Nat.beq n 4) (some (.string selfT, h, nx)) none
  | _ => none
noncomputable def orcHas (s t : ByteArray) (h : Tr SObj) (nx : Nat) : Option (Value × Tr SObj × Nat) :=
  match t.data.toList with
  | [c] => some (.bool (decide (0 ≤ Lib.indexByte s.data.toList c)), h, nx)
  | _ => none
def id1 : List Int := [0, 0, 0, 0, 0, 0, 0, 1]
def id1T : ByteArray := ⟨#[48, 48, 58, 48, 48, 58, 48, 48, 58, 48, 48, 58, 48, 48, 58, 48, 48, 58, 48, 48, 58, 48, 49]⟩
theorem id1_ok : isI id1 := ⟨rfl, by decide⟩
theorem id1_text : (⟨(idS id1).toArray⟩ : ByteArray) = id1T := by kernel_rfl
noncomputable def orcId (cs : List Value) (h : Tr SObj) (nx : Nat) : Option (Value × Tr SObj × Nat) := cond (veqL cs (nums .u8 id1)) (some (.string id1T, h, nx)) none
def netT : ByteArray := ⟨#[49, 48, 46, 48, 46, 48, 46, 48, 47, 56]⟩
def netP : Pr := ⟨⟨[0, 0, 0, 0, 0, 0, 0, 0, 0, 0, 255, 255, 10, 0, 0, 0], 104⟩, ⟨[0, 0, 0, 0, 0, 0, 0, 0, 0, 0, 255, 255, 0, 0, 0, 0], 96⟩⟩
theorem net_parse : parsePPS netT = (netP, 0) := by kernel_rfl
theorem net_fit : netP.fit := by
  unfold Pr.fit Pf.ok isA netP
  decide +kernel
theorem net_text : (⟨(pairS netP).toArray⟩ : ByteArray) = netT := by kernel_rfl
noncomputable def orcPair (s : ByteArray) (h : Tr SObj) (nx : Nat) : Option (Value × Tr SObj × Nat) := cond (strEq s.data.toList netT.data.toList) (some (.tuple #[vPP netP, .int .i64 0], h, nx)) none
noncomputable def orcPairP (cs : List Value) (h : Tr SObj) (nx : Nat) : Option (Value × Tr SObj × Nat) := cond (veqL cs (pCs netP.d.a netP.d.n ++ pCs netP.s.a netP.s.n)) (some (.string netT, h, nx)) none
noncomputable def orc22 : CallS := fun f args h nx =>
  cond (Nat.beq f 169) (match args with | [.string s, .string t] => orcHas s t h nx | _ => none) <|
  cond (Nat.beq f 58) (match args with | [.string s] => orcPair s h nx | _ => none) <|
  cond (Nat.beq f 59) (match args with | [.agg cs] => orcPairP cs.toList h nx | _ => none) <|
  cond (Nat.beq f 51) (match args with | [.agg cs] => orcId cs.toList h nx | _ => none) <|
  cond (Nat.beq f 21) (match args with | [.string s] => orcWords s h nx | _ => none)
    (cond (Nat.beq f 47) (match args with | [.string s, .int .i64 k] => orcNum s k h nx | _ => none)
      (cond (Nat.beq f 45) (match args with | [.slice (some ⟨b, 0, none⟩) n _] => orcJoin b n h nx | _ => none) none))
theorem str_of {s t : ByteArray} (h : strEq s.data.toList t.data.toList = true) : s = t := ba_eq ((strEq_iff _ _).1 h)
theorem wordsRes_ok {w0 w : World} {r : Ren} {h : Tr SObj} {nx : Nat} {s : ByteArray} {ws : List ByteArray} {v : Value} {h' : Tr SObj} {nx' : Nat} (hs : s.size < 4294967281) (hn : 0 < ws.length) (hsp : WSpec s (ws, 0)) (hr : wordsRes ws h nx = some (v, h', nx')) (D : Den 0 w0 r h nx w) : Calls Tryz.prog 21 #[.string s] w (Back 0 w0 r nx v h' nx') := by
  unfold wordsRes at hr
  cases hb : Nat.blt (nx + 1) capB with
  | false => rw [hb] at hr; cases hr
  | true =>
    rw [hb, cond_true] at hr
    cases hr
    exact words_back D (Nat.le_of_ble_eq_true hb) hs hn hsp
theorem orc22_ok {w0 : World} (E : Env w0) : CallOk Tryz.prog 0 w0 orc22 := by
  intro f args h nx v h' nx' r w hs D hl
  have EW := (E.go D.bel).2
  unfold orc22 at hs
  cases h169 : Nat.beq f 169 with
  | true =>
    rw [h169, cond_true] at hs
    have hf : f = 169 := Nat.eq_of_beq_eq_true h169
    subst hf
    split at hs
    case h_2 => cases hs
    rename_i s t
    unfold orcHas at hs
    split at hs
    case h_2 => cases hs
    rename_i c hc
    cases hs
    have et : t = ⟨#[c]⟩ := ba_eq hc
    subst et
    simp only [renL, ren]
    exact back_bare D ((Tryz.strings_Contains_one s c w).mono fun e w' he => ⟨he.1, by rw [he.2]; exact Below.refl _ _⟩) rfl
  | false =>
  rw [h169, cond_false] at hs
  cases h58 : Nat.beq f 58 with
  | true =>
    rw [h58, cond_true] at hs
    have hf : f = 58 := Nat.eq_of_beq_eq_true h58
    subst hf
    split at hs
    case h_2 => cases hs
    rename_i s
    unfold orcPair at hs
    cases c1 : strEq s.data.toList netT.data.toList with
    | false => rw [c1] at hs; cases hs
    | true =>
      rw [c1, cond_true] at hs
      cases hs
      rw [str_of c1]
      simp only [renL, ren]
      refine back_bare D ?_ (by decide +kernel)
      have := pair_any EW (s := netT) (by decide)
      rw [net_parse] at this
      exact this
  | false =>
  rw [h58, cond_false] at hs
  cases h59 : Nat.beq f 59 with
  | true =>
    rw [h59, cond_true] at hs
    have hf : f = 59 := Nat.eq_of_beq_eq_true h59
    subst hf
    split at hs
    case h_2 => cases hs
    rename_i cs
    unfold orcPairP at hs
    cases c1 : veqL cs.toList (pCs netP.d.a netP.d.n ++ pCs netP.s.a netP.s.n) with
    | false => rw [c1] at hs; cases hs
    | true =>
      rw [c1, cond_true] at hs
      cases hs
      have e1 : cs = (pCs netP.d.a netP.d.n ++ pCs netP.s.a netP.s.n).toArray := by rw [← Array.toList_inj]; exact veqL_eq c1
      subst e1
      have hb : renL r [.agg (pCs netP.d.a netP.d.n ++ pCs netP.s.a netP.s.n).toArray] = [vPP netP] := bareL_ren (by decide +kernel)
      rw [hb]
      refine back_bare D ?_ rfl
      have := pairS_any EW net_fit
      rw [net_text] at this
      exact this
  | false =>
  rw [h59, cond_false] at hs
  cases h51 : Nat.beq f 51 with
  | true =>
    rw [h51, cond_true] at hs
    have hf : f = 51 := Nat.eq_of_beq_eq_true h51
    subst hf
    split at hs
    case h_2 => cases hs
    rename_i cs
    unfold orcId at hs
    cases c1 : veqL cs.toList (nums .u8 id1) with
    | false => rw [c1] at hs; cases hs
    | true =>
      rw [c1, cond_true] at hs
      cases hs
      have e1 : cs = (nums .u8 id1).toArray := by rw [← Array.toList_inj]; exact veqL_eq c1
      subst e1
      have hb : renL r [.agg (nums .u8 id1).toArray] = [vA id1] := bareL_ren (by decide +kernel)
      rw [hb]
      refine back_bare D ?_ rfl
      have := printid_any EW id1_ok
      rw [id1_text] at this
      exact this
  | false =>
  rw [h51, cond_false] at hs
  cases h21 : Nat.beq f 21 with
  | true =>
    rw [h21, cond_true] at hs
    have hf : f = 21 := Nat.eq_of_beq_eq_true h21
    subst hf
    split at hs
    case h_2 => cases hs
    rename_i s
    unfold orcWords at hs
    simp only [renL, ren]
    cases c1 : strEq s.data.toList dumpT.data.toList with
    | true =>
      rw [c1, cond_true] at hs
      rw [str_of c1]
      exact wordsRes_ok (by decide) (by decide) dump_spec hs D
    | false =>
      rw [c1, cond_false] at hs
      cases c2 : strEq s.data.toList annT.data.toList with
      | true =>
        rw [c2, cond_true] at hs
        rw [str_of c2]
        exact wordsRes_ok (by decide) (by decide) ann_spec hs D
      | false =>
        rw [c2, cond_false] at hs
        cases c3 : strEq s.data.toList upT.data.toList with
        | true =>
          rw [c3, cond_true] at hs
          rw [str_of c3]
          exact wordsRes_ok (by decide) (by decide) up_spec hs D
        | false => rw [c3, cond_false] at hs; cases hs
  | false =>
    rw [h21, cond_false] at hs
    cases h47 : Nat.beq f 47 with
    | true =>
      rw [h47, cond_true] at hs
      have hf : f = 47 := Nat.eq_of_beq_eq_true h47
      subst hf
      split at hs
      case h_2 => cases hs
      rename_i s k
      unfold orcNum at hs
      cases c1 : (strEq s.data.toList [53] && decide (k = 65534)) with
      | false => rw [c1] at hs; cases hs
      | true =>
        rw [c1, cond_true] at hs
        cases hs
        rw [Bool.and_eq_true, decide_eq_true_eq] at c1
        have e1 : s = ⟨#[53]⟩ := str_of (t := ⟨#[53]⟩) c1.1
        have e2 := c1.2
        subst e1 e2
        simp only [renL, ren]
        refine back_bare D ?_ rfl
        have := number_any EW ⟨#[53]⟩ (by decide) 65534
        rw [num5] at this
        exact this
    | false =>
      rw [h47, cond_false] at hs
      cases h45 : Nat.beq f 45 with
      | false => rw [h45] at hs; cases hs
      | true =>
        rw [h45, cond_true] at hs
        have hf : f = 45 := Nat.eq_of_beq_eq_true h45
        subst hf
        split at hs
        case h_2 => cases hs
        rename_i b n cap
        unfold orcJoin at hs
        split at hs
        case h_2 => cases hs
        rename_i c t op hb
        cases c1 : (veqL c (strs selfL) && Nat.beq n 4) with
        | false => rw [c1] at hs; cases hs
        | true =>
          rw [c1, cond_true] at hs
          cases hs
          rw [Bool.and_eq_true] at c1
          have e1 := veqL_eq c1.1
          have e2 : n = 4 := Nat.eq_of_beq_eq_true c1.2
          subst e1 e2
          have hblt : r.blk b < w.heap.size := (D.low b (Nat.zero_le _) (D.dom b (by rw [hb]; simp))).2
          have hrow : SRow w (.slice (some ⟨r.blk b, 0, none⟩) selfL.length (r.capOf cap)) selfL := ⟨_, _, rfl, fun _ => ⟨r.blk b, 0, rfl, hblt, fun j x hx => by
            rw [Nat.zero_add]
            exact (cell_at D hb (o := j) (v := .string x) (by unfold strs; rw [List.getElem?_map, hx]; rfl)).trans (by simp only [ren])⟩⟩
          simp only [renL, ren, Ren.addr]
          refine back_bare D ?_ rfl
          have := joins_row hrow (by decide) (by decide) (by rw [self_join]; decide)
          rw [self_join] at this
          exact this
theorem ng_all : (Tryz.prog.funcs.toList.all fun fn => !(fn.name == "runtime.NumGoroutine")) = true := by kernel_rfl
theorem ng : NoNG Tryz.prog := fun f fn hf => by
  have := List.all_eq_true.1 ng_all fn (by rw [Array.mem_toList_iff]; exact Array.mem_of_getElem? hf)
  simpa using this
theorem mix : Tryz.prog.follows .mixedOrders = true := by kernel_rfl
noncomputable def isTrue (x : Option (Value × Tr SObj × Nat)) : Bool := match x with
  | some (.bool true, _, _) => true
  | _ => false
theorem live22_run : isTrue (callN Tryz.prog 0 orc22 100000 30 71 [] .leaf 0) = true := by kernel_rfl
/-- The first line of MonitorX. -/
theorem live22_any {w : World} (E : Env w) : Calls Tryz.prog 71 #[] w fun e w' => e = .returned (.bool true) ∧ Below w.heap.size w w' := by
  have hrun := live22_run
  unfold isTrue at hrun
  split at hrun
  case h_2 => cases hrun
  rename_i h' nx' hs
  refine (callN_ok ng mix (orc22_ok E) 100000 30 71 [] .leaf 0 (.bool true) h' nx' ⟨fun i => i, fun i => i⟩ w hs (Den.start w) (by simp [LtL])).mono ?_
  rintro e w' ⟨r', rfl, -, -, -, D⟩
  exact ⟨by simp only [ren], D.bel⟩
end Go.Proofs.YtnljjlaececnkaaGreatDoor
/-
  MonitorApplied, walked. Conditions: the held start; the texts are no longer than memory has room for.
-/
namespace Go.Proofs.YtnljjlaececnkaaGreatDoor
open Go.RowKit
set_option linter.unusedVariables false
set_option linter.unusedSimpArgs false
theorem OwnTexts.ex2 {w : World} {xs : List ByteArray} {e : Ending} {w' : World} (h : OwnTexts w xs e w') : ∃ A c, e = .returned (.slice A xs.length c) ∧ SRow w' (.slice A xs.length c) xs ∧ Below w.heap.size w w' := by
  obtain ⟨x, rfl, ho, lo, bel⟩ : ∃ x, e = .returned x ∧ w'.ownsRow 0 9 1 x xs.length (strs xs) ∧ Lo w.heap.size x ∧ Below w.heap.size w w' := h
  have hr := SRow.of_own ho
  obtain ⟨A, c, rfl, hc⟩ := hr
  exact ⟨A, c, rfl, ⟨A, c, rfl, hc⟩, bel⟩
theorem SRow.cell {w : World} {A : Option Addr} {n c : Nat} {xs : List ByteArray} (h : SRow w (.slice A n c) xs) : ∀ (j : Nat) x, xs[j]? = some x → ∃ k o, A = some ⟨k, o, none⟩ ∧ k < w.heap.size ∧ w.cell? ⟨k, o + j, none⟩ = some (.string x) := by
  obtain ⟨A', c', e, hc⟩ := h
  injection e with e1 e2 e3
  subst e1
  intro j x hj
  obtain ⟨k, o, h1, h2, h3⟩ := hc (by have := (List.getElem?_eq_some_iff.1 hj).1; omega)
  exact ⟨k, o, h1, h2, h3 j x hj⟩
set_option maxRecDepth 100000 in
set_option maxHeartbeats 6400000 in
theorem MonitorApplied_walk {w : World} (v u : Value) (was is : List ByteArray) (hv : SIn w v was) (hu : SIn w u is) (E : Env w) : Calls Tryz.prog 18 #[v, u] w fun e w' => e = .returned (.bool true) ∧ Below w.heap.size w w' := by
  have hlive := fun (W : World) (h : Below w.heap.size w W) => (live22_any (E.go h).2).mono fun e w' h2 => (⟨h2.1, h.trans (h2.2.mono h.size)⟩ : e = .returned (.bool true) ∧ Below w.heap.size w w')
  obtain ⟨hv, hvn, hvz⟩ := hv
  obtain ⟨hu, hun, huz⟩ := hu
  obtain ⟨L, hL⟩ : ∃ L, chgL was is = L := ⟨_, rfl⟩
  have c1 := fun (hn : was.length ≤ 100) (hm : is.length ≤ 100) => changes_any hv hu hn hm (fun x hx => Nat.le_trans (hvz x hx) (by decide)) (fun x hx => Nat.le_trans (huz x hx) (by decide))
  have hT : Hid (∀ x ∈ L, Told was is x) := Lib.hid (by rw [← hL]; exact fun x hx => told_of hx)
  have hC : Hid (∀ x ∈ is, Lib.containsS was x = false → Lib.containsS L (markB 43 x) = true) := Lib.hid (by rw [← hL]; exact fun x hx hn => come_told hx hn)
  have hcl : Hid (L.length ≤ was.length + is.length) := Lib.hid (by rw [← hL]; unfold chgL goneL comeL; rw [List.length_append]; exact Nat.add_le_add filt_len filt_len)
  rw [hL] at c1
  have t1 := fun (hn : was.length ≤ 100) (W : World) (hb : Below w.heap.size w W) s => there_row (hv.below hb) (by omega) s
  have t2 := fun (hn : is.length ≤ 100) (W : World) (hb : Below w.heap.size w W) s => there_row (hu.below hb) (by omega) s
  obtain ⟨A, c, rfl, hv⟩ := hv
  obtain ⟨B, d, rfl, hu⟩ := hu
  have Hv := Lib.hid hv
  have Hu := Lib.hid hu
  replace hlive := Lib.hid hlive
  replace c1 := Lib.hid c1
  replace t1 := Lib.hid t1
  replace t2 := Lib.hid t2
  replace huz := Lib.hid huz
  clear hv hu hvz hL
  have bel := Below.refl w.heap.size w
  by_cases hA : was.length ≤ 61
  · by_cases hB : is.length ≤ 61
    · go_enter Tryz.func18, Tryz.ntmps18
      go_wp2
      go_loopw [5, 6] (fun x5 x6 wr => ∃ (m : Int) (j : Nat), x5 = .int .i64 m ∧ x6 = .int .i64 j ∧ j ≤ was.length ∧ wr = w) (fun x5 x6 _ => was.length - (intOf x6).toNat)
      case atStart => exact ⟨_, 0, rfl, rfl, Nat.zero_le _, rfl⟩
      case round =>
        obtain ⟨m, j, rfl, rfl, hj, hw⟩ := hrel
        replace hw := hw.symm
        subst hw
        by_cases hlt : j < was.length
        · obtain ⟨k, o, rfl, hk, hc⟩ := Hv.out (by omega)
          have hx := List.getElem?_eq_getElem (show j < was.length by omega)
          have q1 := hc j _ hx
          obtain ⟨y, hy⟩ : ∃ y, was[j] = y := ⟨_, rfl⟩
          rw [hy] at q1
          clear hc hx hy
          go_wp2
          exact ⟨⟨_, j + 1, rfl, by congr 1, by omega, by first | rfl | trivial⟩, by simp [intOf]; omega⟩
        · obtain rfl : j = was.length := by omega
          go_wp2
          go_loopw [5, 7] (fun x5 x7 wr => ∃ (m : Int) (j : Nat), x5 = .int .i64 m ∧ x7 = .int .i64 j ∧ j ≤ is.length ∧ wr = w) (fun x5 x7 _ => is.length - (intOf x7).toNat)
          case atStart => exact ⟨_, 0, rfl, rfl, Nat.zero_le _, rfl⟩
          case round =>
            obtain ⟨m, j, rfl, rfl, hj, hw⟩ := hrel
            replace hw := hw.symm
            subst hw
            by_cases hlt : j < is.length
            · obtain ⟨k, o, rfl, hk, hc⟩ := Hu.out (by omega)
              have hx := List.getElem?_eq_getElem (show j < is.length by omega)
              have q1 := hc j _ hx
              obtain ⟨y, hy⟩ : ∃ y, is[j] = y := ⟨_, rfl⟩
              rw [hy] at q1
              clear hc hx hy
              go_wp2
              exact ⟨⟨_, j + 1, rfl, by congr 1, by omega, by first | rfl | trivial⟩, by simp [intOf]; omega⟩
            · obtain rfl : j = is.length := by omega
              by_cases hm5 : (5000 : Int) < m
              · have hd := decide_eq_true hm5
                go_wp2_with (go_at_call 71; refine (hlive.out _ bel).mono ?_; rintro e w9 ⟨rfl, bel9⟩)
                all_goals (go_ret; exact ⟨rfl, bel9⟩)
              · have hd := decide_eq_false hm5
                have hA60 : was.length ≤ 60 ∨ was.length = 61 := by omega
                have hB60 : is.length ≤ 60 ∨ is.length = 61 := by omega
                by_cases h60 : 60 < was.length
                · go_wp2_with (go_at_call 71; refine (hlive.out _ bel).mono ?_; rintro e w9 ⟨rfl, bel9⟩)
                  all_goals (go_ret; exact ⟨rfl, bel9⟩)
                · by_cases h61 : 60 < is.length
                  · go_wp2_with (go_at_call 71; refine (hlive.out _ bel).mono ?_; rintro e w9 ⟨rfl, bel9⟩)
                    all_goals (go_ret; exact ⟨rfl, bel9⟩)
                  · have k1 := c1.out (by omega) (by omega)
                    have hLn : L.length ≤ 200 := by have := hcl.out; omega
                    have T1 := Lib.hid (t1.out (by omega))
                    have T2 := Lib.hid (t2.out (by omega))
                    clear t1 t2 c1
                    go_wp2_with (go_at_call 75; with_reducible refine k1.mono ?_; intro e w1 hq1; obtain ⟨A1, q1, rfl, hr1, bel1⟩ := OwnTexts.ex2 hq1)
                    have T3 : Hid (∀ W, Below w1.heap.size w1 W → ∀ s, Calls Tryz.prog 79 #[.slice A1 L.length q1, .string s] W fun e w' => e = .returned (.bool (Lib.containsS L s)) ∧ w' = W) := Lib.hid fun W hb s => there_row (hr1.below hb) (by omega) s
                    have Hr := Lib.hid (SRow.cell hr1)
                    clear hr1 k1
                    go_loopw [9] (fun x9 wr => ∃ j : Nat, x9 = .int .i64 j ∧ j ≤ L.length ∧ Below w1.heap.size w1 wr) (fun x9 _ => L.length - (intOf x9).toNat)
                    case atStart => exact ⟨0, rfl, Nat.zero_le _, Below.refl _ _⟩
                    case round =>
                      obtain ⟨j, rfl, hj, belr⟩ := hrel
                      by_cases hlt : j < L.length
                      · obtain ⟨x, hx⟩ : ∃ x, L[j]? = some x := ⟨_, List.getElem?_eq_getElem hlt⟩
                        obtain ⟨k, o, hA1, hk, hc⟩ := Hr.out j x hx
                        subst hA1
                        have qx : wr.cell? ⟨k, o + j, none⟩ = some (.string x) := (Below.cell (p := ⟨k, o + j, none⟩) belr hk).trans hc
                        have hto := hT.out x (List.mem_of_getElem? hx)
                        clear hc
                        rcases hto with ⟨s, hs1, hsa, hsb⟩ | ⟨s, hs1, hsa, hsb⟩
                        · have e1 : x.extract 2 x.size = s := by rw [hs1]; exact markB_rest _ _
                          have e2 : x.extract 0 2 = ⟨#[45, 32]⟩ := by rw [hs1]; exact markB_head _ _
                          have d2 : 2 ≤ x.size := by rw [hs1, markB_size]; omega
                          have d3 : decide ((x.size : Int) < 2) = false := decide_eq_false (by omega)
                          have u1 : Hid (∀ W, Below w1.heap.size w1 W → Calls Tryz.prog 79 #[.slice A was.length c, .string s] W fun e w' => e = .returned (.bool true) ∧ w' = W) := Lib.hid fun W hW => by have := T1.out W (bel1.trans (hW.mono bel1.size)) s; rwa [hsa] at this
                          have u2 : Hid (∀ W, Below w1.heap.size w1 W → Calls Tryz.prog 79 #[.slice B is.length d, .string s] W fun e w' => e = .returned (.bool false) ∧ w' = W) := Lib.hid fun W hW => by have := T2.out W (bel1.trans (hW.mono bel1.size)) s; rwa [hsb] at this
                          clear hs1 hsa hsb hx
                          go_wp2
                          go_quiet (first
                            | (go_at_call 79; with_reducible exact Calls.quiet_of_same (u1.out _ (below_drewN belr _)))
                            | (go_at_call 79; with_reducible exact Calls.quiet_of_same (u2.out _ (below_drewN belr _))))
                          go_wp2
                          exact ⟨⟨j + 1, by congr 1, by omega, below_drewN belr _⟩, by simp [intOf]; omega⟩
                        · have e1 : x.extract 2 x.size = s := by rw [hs1]; exact markB_rest _ _
                          have e2 : x.extract 0 2 = ⟨#[43, 32]⟩ := by rw [hs1]; exact markB_head _ _
                          have d2 : 2 ≤ x.size := by rw [hs1, markB_size]; omega
                          have d3 : decide ((x.size : Int) < 2) = false := decide_eq_false (by omega)
                          have u1 : Hid (∀ W, Below w1.heap.size w1 W → Calls Tryz.prog 79 #[.slice A was.length c, .string s] W fun e w' => e = .returned (.bool false) ∧ w' = W) := Lib.hid fun W hW => by have := T1.out W (bel1.trans (hW.mono bel1.size)) s; rwa [hsa] at this
                          have u2 : Hid (∀ W, Below w1.heap.size w1 W → Calls Tryz.prog 79 #[.slice B is.length d, .string s] W fun e w' => e = .returned (.bool true) ∧ w' = W) := Lib.hid fun W hW => by have := T2.out W (bel1.trans (hW.mono bel1.size)) s; rwa [hsb] at this
                          clear hs1 hsa hsb hx
                          go_wp2
                          go_quiet (first
                            | (go_at_call 79; with_reducible exact Calls.quiet_of_same (u1.out _ (below_drewN belr _)))
                            | (go_at_call 79; with_reducible exact Calls.quiet_of_same (u2.out _ (below_drewN belr _))))
                          go_wp2
                          exact ⟨⟨j + 1, by congr 1, by omega, below_drewN belr _⟩, by simp [intOf]; omega⟩
                      · obtain rfl : j = L.length := by omega
                        go_wp2
                        obtain ⟨wo, hwo⟩ : ∃ wo : World, wo = wr := ⟨_, rfl⟩
                        subst hwo
                        go_loopw [12] (fun x12 wr => ∃ j : Nat, x12 = .int .i64 j ∧ j ≤ is.length ∧ Below w1.heap.size w1 wr) (fun x12 _ => is.length - (intOf x12).toNat)
                        case atStart => exact ⟨0, rfl, Nat.zero_le _, belr⟩
                        case round =>
                          obtain ⟨j, rfl, hj, belr⟩ := hrel
                          have belw := bel1.trans (belr.mono bel1.size)
                          by_cases hlt : j < is.length
                          · obtain ⟨y, hy⟩ : ∃ y, is[j]? = some y := ⟨_, List.getElem?_eq_getElem hlt⟩
                            obtain ⟨k, o, hB1, hk, hc⟩ := Hu.out (by omega)
                            subst hB1
                            have qy : wr.cell? ⟨k, o + j, none⟩ = some (.string y) := (Below.cell (p := ⟨k, o + j, none⟩) belw hk).trans (hc j y hy)
                            have hys := huz.out y (List.mem_of_getElem? hy)
                            have hCy := hC.out y (List.mem_of_getElem? hy)
                            clear hc hy
                            cases hb : Lib.containsS was y with
                            | true =>
                              have u1 : Hid (∀ W, Below w1.heap.size w1 W → Calls Tryz.prog 79 #[.slice A was.length c, .string y] W fun e w' => e = .returned (.bool true) ∧ w' = W) := Lib.hid fun W hW => by have := T1.out W (bel1.trans (hW.mono bel1.size)) y; rwa [hb] at this
                              clear hCy hb
                              go_wp2_with (go_at_call 79; with_reducible refine (u1.out _ belr).mono ?_; rintro e w5 ⟨rfl, hw⟩; replace hw := hw.symm; subst hw)
                              exact ⟨⟨j + 1, by congr 1, by omega, belr⟩, by simp [intOf]; omega⟩
                            | false =>
                              have u1 : Hid (∀ W, Below w1.heap.size w1 W → Calls Tryz.prog 79 #[.slice A was.length c, .string y] W fun e w' => e = .returned (.bool false) ∧ w' = W) := Lib.hid fun W hW => by have := T1.out W (bel1.trans (hW.mono bel1.size)) y; rwa [hb] at this
                              have u3 : Hid (∀ W, Below w1.heap.size w1 W → Calls Tryz.prog 79 #[.slice A1 L.length q1, .string ((⟨#[43, 32]⟩ : ByteArray) ++ y)] W fun e w' => e = .returned (.bool true) ∧ w' = W) := Lib.hid fun W hW => by have := T3.out W hW (markB 43 y); rwa [hCy hb] at this
                              clear hCy hb
                              go_wp2_with (first
                                | (go_at_call 79; with_reducible refine (u1.out _ belr).mono ?_; rintro e w5 ⟨rfl, hw⟩; replace hw := hw.symm; subst hw)
                                | (go_at_call 79; with_reducible refine (u3.out _ belr).mono ?_; rintro e w5 ⟨rfl, hw⟩; replace hw := hw.symm; subst hw))
                              exact ⟨⟨j + 1, by congr 1, by omega, belr⟩, by simp [intOf]; omega⟩
                          · obtain rfl : j = is.length := by omega
                            go_wp2_with (go_at_call 71; refine (hlive.out _ belw).mono ?_; rintro e w9 ⟨rfl, bel9⟩)
                            all_goals (go_ret; exact ⟨rfl, bel9⟩)
    · go_enter Tryz.func18, Tryz.ntmps18
      go_wp2
      go_loopw [5, 6] (fun x5 x6 wr => ∃ (m : Int) (j : Nat), x5 = .int .i64 m ∧ x6 = .int .i64 j ∧ j ≤ was.length ∧ wr = w) (fun x5 x6 _ => was.length - (intOf x6).toNat)
      case atStart => exact ⟨_, 0, rfl, rfl, Nat.zero_le _, rfl⟩
      case round =>
        obtain ⟨m, j, rfl, rfl, hj, hw⟩ := hrel
        replace hw := hw.symm
        subst hw
        by_cases hlt : j < was.length
        · obtain ⟨k, o, rfl, hk, hc⟩ := Hv.out (by omega)
          have hx := List.getElem?_eq_getElem (show j < was.length by omega)
          have q1 := hc j _ hx
          obtain ⟨y, hy⟩ : ∃ y, was[j] = y := ⟨_, rfl⟩
          rw [hy] at q1
          clear hc hx hy
          go_wp2
          exact ⟨⟨_, j + 1, rfl, by congr 1, by omega, by first | rfl | trivial⟩, by simp [intOf]; omega⟩
        · obtain rfl : j = was.length := by omega
          go_wp2
          go_loopw [5, 7] (fun x5 x7 wr => ∃ (m : Int) (j : Nat), x5 = .int .i64 m ∧ x7 = .int .i64 j ∧ j ≤ 61 ∧ wr = w) (fun x5 x7 _ => 61 - (intOf x7).toNat)
          case atStart => exact ⟨_, 0, rfl, rfl, Nat.zero_le _, rfl⟩
          case round =>
            obtain ⟨m, j, rfl, rfl, hj, hw⟩ := hrel
            replace hw := hw.symm
            subst hw
            by_cases hlt : j < 61
            · obtain ⟨k, o, rfl, hk, hc⟩ := Hu.out (by omega)
              have hx := List.getElem?_eq_getElem (show j < is.length by omega)
              have q1 := hc j _ hx
              obtain ⟨y, hy⟩ : ∃ y, is[j] = y := ⟨_, rfl⟩
              rw [hy] at q1
              clear hc hx hy
              go_wp2
              exact ⟨⟨_, j + 1, rfl, by congr 1, by omega, by first | rfl | trivial⟩, by simp [intOf]; omega⟩
            · obtain rfl : j = 61 := by omega
              go_wp2_with (go_at_call 71; refine (hlive.out _ bel).mono ?_; rintro e w9 ⟨rfl, bel9⟩)
              all_goals (go_ret; exact ⟨rfl, bel9⟩)
  · by_cases hB : is.length ≤ 61
    · go_enter Tryz.func18, Tryz.ntmps18
      go_wp2
      go_loopw [5, 6] (fun x5 x6 wr => ∃ (m : Int) (j : Nat), x5 = .int .i64 m ∧ x6 = .int .i64 j ∧ j ≤ 61 ∧ wr = w) (fun x5 x6 _ => 61 - (intOf x6).toNat)
      case atStart => exact ⟨_, 0, rfl, rfl, Nat.zero_le _, rfl⟩
      case round =>
        obtain ⟨m, j, rfl, rfl, hj, hw⟩ := hrel
        replace hw := hw.symm
        subst hw
        by_cases hlt : j < 61
        · obtain ⟨k, o, rfl, hk, hc⟩ := Hv.out (by omega)
          have hx := List.getElem?_eq_getElem (show j < was.length by omega)
          have q1 := hc j _ hx
          obtain ⟨y, hy⟩ : ∃ y, was[j] = y := ⟨_, rfl⟩
          rw [hy] at q1
          clear hc hx hy
          go_wp2
          exact ⟨⟨_, j + 1, rfl, by congr 1, by omega, by first | rfl | trivial⟩, by simp [intOf]; omega⟩
        · obtain rfl : j = 61 := by omega
          go_wp2
          go_loopw [5, 7] (fun x5 x7 wr => ∃ (m : Int) (j : Nat), x5 = .int .i64 m ∧ x7 = .int .i64 j ∧ j ≤ is.length ∧ wr = w) (fun x5 x7 _ => is.length - (intOf x7).toNat)
          case atStart => exact ⟨_, 0, rfl, rfl, Nat.zero_le _, rfl⟩
          case round =>
            obtain ⟨m, j, rfl, rfl, hj, hw⟩ := hrel
            replace hw := hw.symm
            subst hw
            by_cases hlt : j < is.length
            · obtain ⟨k, o, rfl, hk, hc⟩ := Hu.out (by omega)
              have hx := List.getElem?_eq_getElem (show j < is.length by omega)
              have q1 := hc j _ hx
              obtain ⟨y, hy⟩ : ∃ y, is[j] = y := ⟨_, rfl⟩
              rw [hy] at q1
              clear hc hx hy
              go_wp2
              exact ⟨⟨_, j + 1, rfl, by congr 1, by omega, by first | rfl | trivial⟩, by simp [intOf]; omega⟩
            · obtain rfl : j = is.length := by omega
              go_wp2_with (go_at_call 71; refine (hlive.out _ bel).mono ?_; rintro e w9 ⟨rfl, bel9⟩)
              all_goals (go_ret; exact ⟨rfl, bel9⟩)
    · go_enter Tryz.func18, Tryz.ntmps18
      go_wp2
      go_loopw [5, 6] (fun x5 x6 wr => ∃ (m : Int) (j : Nat), x5 = .int .i64 m ∧ x6 = .int .i64 j ∧ j ≤ 61 ∧ wr = w) (fun x5 x6 _ => 61 - (intOf x6).toNat)
      case atStart => exact ⟨_, 0, rfl, rfl, Nat.zero_le _, rfl⟩
      case round =>
        obtain ⟨m, j, rfl, rfl, hj, hw⟩ := hrel
        replace hw := hw.symm
        subst hw
        by_cases hlt : j < 61
        · obtain ⟨k, o, rfl, hk, hc⟩ := Hv.out (by omega)
          have hx := List.getElem?_eq_getElem (show j < was.length by omega)
          have q1 := hc j _ hx
          obtain ⟨y, hy⟩ : ∃ y, was[j] = y := ⟨_, rfl⟩
          rw [hy] at q1
          clear hc hx hy
          go_wp2
          exact ⟨⟨_, j + 1, rfl, by congr 1, by omega, by first | rfl | trivial⟩, by simp [intOf]; omega⟩
        · obtain rfl : j = 61 := by omega
          go_wp2
          go_loopw [5, 7] (fun x5 x7 wr => ∃ (m : Int) (j : Nat), x5 = .int .i64 m ∧ x7 = .int .i64 j ∧ j ≤ 61 ∧ wr = w) (fun x5 x7 _ => 61 - (intOf x7).toNat)
          case atStart => exact ⟨_, 0, rfl, rfl, Nat.zero_le _, rfl⟩
          case round =>
            obtain ⟨m, j, rfl, rfl, hj, hw⟩ := hrel
            replace hw := hw.symm
            subst hw
            by_cases hlt : j < 61
            · obtain ⟨k, o, rfl, hk, hc⟩ := Hu.out (by omega)
              have hx := List.getElem?_eq_getElem (show j < is.length by omega)
              have q1 := hc j _ hx
              obtain ⟨y, hy⟩ : ∃ y, is[j] = y := ⟨_, rfl⟩
              rw [hy] at q1
              clear hc hx hy
              go_wp2
              exact ⟨⟨_, j + 1, rfl, by congr 1, by omega, by first | rfl | trivial⟩, by simp [intOf]; omega⟩
            · obtain rfl : j = 61 := by omega
              go_wp2_with (go_at_call 71; refine (hlive.out _ bel).mono ?_; rintro e w9 ⟨rfl, bel9⟩)
              all_goals (go_ret; exact ⟨rfl, bel9⟩)
end Go.Proofs.YtnljjlaececnkaaGreatDoor
/-
  The closed facts on the whole program that each row asks, one declaration each. No condition.
-/
namespace Go.Proofs.YtnljjlaececnkaaGreatDoor
open Go.ChangeShapes Go.WideShapes
set_option linter.unusedVariables false
theorem jf_out : laidOutB Tryz.pinned.checked.prog = true := by kernel_rfl
theorem jf_maps : mapsRowed Tryz.pinned.checked.prog = true := by kernel_rfl
theorem jf_stops : (Tryz.pinned.checked.prog.stops == []) = true := by kernel_rfl
theorem jf_knobs : (Tryz.pinned.checked.prog.stopKnobs == []) = true := by kernel_rfl
theorem jf_keys : (false == Tryz.pinned.checked.prog.plainKeys) = true := by kernel_rfl
theorem jf_heard : Tryz.pinned.checked.prog.stopsHeard = true := by kernel_rfl
theorem jf_enter : Tryz.pinned.checked.prog.mayEnter = true := by kernel_rfl
theorem jf_lift : (Rows.addrTreeRow.lifted == Tryz.pinned.checked.prog.liftsFinal) = true := by kernel_rfl
theorem jf_make : (Tryz.pinned.checked.prog.make == some Rows.addrTreeRow.make) = true := by kernel_rfl
/-! ### of a card -/
theorem jf_main : Tryz.pinned.checked.prog.mainIs = some (true, "11f230a8d8e2c1745f747872d237d21740fd6a16d7af62534ef2deb61fc91356".toList) := by kernel_rfl
theorem jf_looks : true = Tryz.pinned.checked.prog.looks [] := by kernel_rfl
end Go.Proofs.YtnljjlaececnkaaGreatDoor
/-
  The closed facts of a row, out of those of its own and those on the whole program. No condition.
-/
namespace Go.Proofs.YtnljjlaececnkaaGreatDoor
open Go.ChangeShapes Go.WideShapes
set_option linter.unusedVariables false
/-- The closed facts of a row, out of those of its own. -/
theorem joined_gen {P : Program} {f : FuncId} {fn : Func} {s : ChangeSpec} {c : OpenClaim}
    (jf_out : laidOutB P = true) (jf_maps : mapsRowed P = true) (jf_stops : (P.stops == []) = true) (jf_knobs : (P.stopKnobs == []) = true) (k1 : (c.plainKeys == P.plainKeys) = true) (jf_heard : P.stopsHeard = true) (jf_enter : P.mayEnter = true) (k2 : (c.lifted == P.liftsFinal) = true) (k3 : (P.make == some c.make) = true)
    (a1 : c.wf (OpenSpec.ofChange s) = true) (a2 : fn.params.all (P.readableRec ·) = true) (a3 : namedTie P c.named s.vars = true) (a4 : (c.stops == []) = true) (a5 : (c.knobs == []) = true)
    (a6 : (c.inPlace == P.inPlace f) = true) (a7 : (c.unfollowed == P.unfollowed f) = true) (a8 : (c.recurses == P.recurses f) = true) (a9 : (c.named == P.varsNamed f) = true)
    (b1 : (c.maps == (fn.params.toList ++ s.plain.varTypes P).any (P.mapsRec ·)) = true) (b2 : (c.ifaces == (fn.params.toList ++ s.plain.varTypes P).any (P.ifacesRec ·)) = true) (b3 : (c.mapsOut == P.mapsAmong fn.resultTypes.toList) = true)
    (b4 : (c.loops == (fn.params.toList ++ s.plain.varTypes P).any (P.loopsFrom ·)) = true) (b5 : (c.wideKeys == (fn.params.toList ++ s.plain.varTypes P ++ fn.resultTypes.toList).any (P.wideKeysFrom ·)) = true)
    (b6 : s.vars.all (P.varReadable ·) = true) (b7 : fn.resultTypes.all (fun t => P.readableRec t && decide (t < P.types.size)) = true) (b8 : (c.ifacesOut == fn.resultTypes.toList.any (P.ifacesRec ·)) = true) (b9 : (c.loopsOut == fn.resultTypes.toList.any (P.loopsFrom ·)) = true)
    (d1 : c.shortTexts.isNone = true) (d2 : (c.kinds == (if c.domain.isEmpty then [] else fn.params.toList.map fun t => match P.underlying t with | some (.int k) => some k | _ => none)) = true) (d3 : (c.pinned == c.pinnedBy) = true)
    (d4 : (c.veiled == (fn.params.toList ++ s.plain.varTypes P ++ fn.resultTypes.toList).any (P.veiledRec ·)) = true) (d5 : c.veiledFits P fn.params.toList (fn.params.toList ++ s.plain.varTypes P ++ fn.resultTypes.toList) = true) :
    joinedFacts P f fn s c = true := by
  unfold joinedFacts
  rw [a1, jf_out, jf_maps, a2, a3, a4, jf_stops, a5, jf_knobs, a6, a7, a8, a9, b1, b2, b3, b4, b5, b6, b7, b8, b9, k1, d1, jf_heard, jf_enter, k2, k3, d3, d4, d5]
  simp only [Bool.true_and, Bool.and_true]
  exact d2
/-- The closed facts of a row, out of those of its own. -/
theorem joined_of {f : FuncId} {fn : Func} {s : ChangeSpec} {c : OpenClaim}
    (hk : c.plainKeys = false) (hl : c.lifted = Rows.addrTreeRow.lifted) (hm : c.make = Rows.addrTreeRow.make)
    (a1 : c.wf (OpenSpec.ofChange s) = true) (a2 : fn.params.all (Tryz.pinned.checked.prog.readableRec ·) = true) (a3 : namedTie Tryz.pinned.checked.prog c.named s.vars = true) (a4 : (c.stops == []) = true) (a5 : (c.knobs == []) = true)
    (a6 : (c.inPlace == Tryz.pinned.checked.prog.inPlace f) = true) (a7 : (c.unfollowed == Tryz.pinned.checked.prog.unfollowed f) = true) (a8 : (c.recurses == Tryz.pinned.checked.prog.recurses f) = true) (a9 : (c.named == Tryz.pinned.checked.prog.varsNamed f) = true)
    (b1 : (c.maps == (fn.params.toList ++ s.plain.varTypes Tryz.pinned.checked.prog).any (Tryz.pinned.checked.prog.mapsRec ·)) = true) (b2 : (c.ifaces == (fn.params.toList ++ s.plain.varTypes Tryz.pinned.checked.prog).any (Tryz.pinned.checked.prog.ifacesRec ·)) = true) (b3 : (c.mapsOut == Tryz.pinned.checked.prog.mapsAmong fn.resultTypes.toList) = true)
    (b4 : (c.loops == (fn.params.toList ++ s.plain.varTypes Tryz.pinned.checked.prog).any (Tryz.pinned.checked.prog.loopsFrom ·)) = true) (b5 : (c.wideKeys == (fn.params.toList ++ s.plain.varTypes Tryz.pinned.checked.prog ++ fn.resultTypes.toList).any (Tryz.pinned.checked.prog.wideKeysFrom ·)) = true)
    (b6 : s.vars.all (Tryz.pinned.checked.prog.varReadable ·) = true) (b7 : fn.resultTypes.all (fun t => Tryz.pinned.checked.prog.readableRec t && decide (t < Tryz.pinned.checked.prog.types.size)) = true) (b8 : (c.ifacesOut == fn.resultTypes.toList.any (Tryz.pinned.checked.prog.ifacesRec ·)) = true) (b9 : (c.loopsOut == fn.resultTypes.toList.any (Tryz.pinned.checked.prog.loopsFrom ·)) = true)
    (d1 : c.shortTexts.isNone = true) (d2 : (c.kinds == (if c.domain.isEmpty then [] else fn.params.toList.map fun t => match Tryz.pinned.checked.prog.underlying t with | some (.int k) => some k | _ => none)) = true) (d3 : (c.pinned == c.pinnedBy) = true)
    (d4 : (c.veiled == (fn.params.toList ++ s.plain.varTypes Tryz.pinned.checked.prog ++ fn.resultTypes.toList).any (Tryz.pinned.checked.prog.veiledRec ·)) = true) (d5 : c.veiledFits Tryz.pinned.checked.prog fn.params.toList (fn.params.toList ++ s.plain.varTypes Tryz.pinned.checked.prog ++ fn.resultTypes.toList) = true) :
    joinedFacts Tryz.pinned.checked.prog f fn s c = true := by
  have k1 : (c.plainKeys == Tryz.pinned.checked.prog.plainKeys) = true := by rw [hk]; exact jf_keys
  have k2 : (c.lifted == Tryz.pinned.checked.prog.liftsFinal) = true := by rw [hl]; exact jf_lift
  have k3 : (Tryz.pinned.checked.prog.make == some c.make) = true := by rw [hm]; exact jf_make
  exact joined_gen jf_out jf_maps jf_stops jf_knobs k1 jf_heard jf_enter k2 k3 a1 a2 a3 a4 a5 a6 a7 a8 a9 b1 b2 b3 b4 b5 b6 b7 b8 b9 d1 d2 d3 d4 d5
end Go.Proofs.YtnljjlaececnkaaGreatDoor
