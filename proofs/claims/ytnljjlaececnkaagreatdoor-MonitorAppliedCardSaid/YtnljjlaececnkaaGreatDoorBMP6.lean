/-
  Merged texts (FB, FC, GP, GQ, GA, FD, FE, GC, FG, FH, GD, GE, GG, GH, GI, MA, MB, MD, RA, RB), part 6 of 12. Conditions: each part's own, told at its head.
-/
import Derived.Test.YtnljjlaececnkaaGreatDoorBMP1
import Derived.Test.YtnljjlaececnkaaGreatDoorBMP2
import Derived.Test.YtnljjlaececnkaaGreatDoorBMP3
import Derived.Test.YtnljjlaececnkaaGreatDoorBMP4
import Derived.Test.YtnljjlaececnkaaGreatDoorBMP5
import Derived.Shelf.Strings.Builder1
import Derived.Calls
import Derived.Below
/-
  strings.Builder's WriteByte laid at this dump; a quoted word is read. No condition.
-/
namespace Go.Proofs.YtnljjlaececnkaaGreatDoor
open Go.RowKit
set_option linter.unusedVariables false
set_option linter.unusedSimpArgs false
def lays167_ren : Go.Shelf.Ren := ⟨fun | 167 => 160 | 240 => 201 | 276 => 249 | n => n, fun | 70 => 207 | 75 => 158 | 80 => 142 | 3 => 3 | 0 => 0 | 4 => 4 | 9 => 9 | 20 => 20 | 72 => 209 | 37 => 150 | 164 => 310 | 5 => 5 | n => n, fun | n => n⟩
theorem lays167 : Go.Proofs.Lays.n167 Tryz.prog lays167_ren := {
  mixed := by kernel_rfl
  f167 := Tryz.func160.trans (congrArg some (by kernel_rfl))
  f240 := Tryz.func201.trans (congrArg some (by kernel_rfl))
  f276 := Tryz.func249.trans (congrArg some (by kernel_rfl))
  t0 := Tryz.underlying0
  a0 := Tryz.isAgg0
  z0 := Tryz.sizeOf0
  v0 := Tryz.zeroValue0
  t4 := Tryz.underlying4
  a4 := Tryz.isAgg4
  z4 := Tryz.sizeOf4
  v4 := Tryz.zeroValue4
  t5 := Tryz.underlying5
  a5 := Tryz.isAgg5
  z5 := Tryz.sizeOf5
  v5 := Tryz.zeroValue5
  t9 := Tryz.underlying9
  a9 := Tryz.isAgg9
  z9 := Tryz.sizeOf9
  v9 := Tryz.zeroValue9
  t20 := Tryz.underlying20
  a20 := Tryz.isAgg20
  z20 := Tryz.sizeOf20
  v20 := Tryz.zeroValue20
  t37 := Tryz.underlying150
  a37 := Tryz.isAgg150
  z37 := Tryz.sizeOf150
  v37 := Tryz.zeroValue150
  t70 := Tryz.underlying207
  a70 := Tryz.isAgg207
  z70 := Tryz.sizeOf207
  v70 := Tryz.zeroValue207
  t72 := Tryz.underlying209
  a72 := Tryz.isAgg209
  z72 := Tryz.sizeOf209
  v72 := Tryz.zeroValue209
  t75 := Tryz.underlying158
  a75 := Tryz.isAgg158
  z75 := Tryz.sizeOf158
  v75 := Tryz.zeroValue158
  t164 := Tryz.underlying310
  a164 := Tryz.isAgg310
  z164 := Tryz.sizeOf310
  v164 := Tryz.zeroValue310 }
theorem builder_extra_167 : Builder.Extra Tryz.prog lays167_ren := {
  sizeBuilder := by kernel_rfl
  liesBuilder := by kernel_rfl
  t5 := Tryz.underlying5
  a5 := Tryz.isAgg5
  z5 := Tryz.sizeOf5
  v5 := Tryz.zeroValue5
  infoByte := by kernel_rfl
  cellsByte := by kernel_rfl
  sizeByte := by kernel_rfl
  neB5 := by decide }
/-- A quoted word behind its first mark: the word, what is left, the fault. -/
def quotS : List UInt8 → List UInt8 → List UInt8 × List UInt8 × Int
  | [], _ => ([], [], 80)
  | c :: r, acc =>
    if mayB c = false then ([], c :: r, 81)
    else if c = 34 then (match r with
      | [] => (acc, [], 0)
      | d :: r2 => if mayB d = false then ([], d :: r2, 81) else if d = 32 then (acc, d :: r2, 0) else ([], d :: r2, 80))
    else if c = 92 then (match r with
      | [] => ([], [], 80)
      | d :: r2 => if mayB d = false then ([], d :: r2, 81) else if d = 34 ∨ d = 92 then quotS r2 (acc ++ [d]) else ([], d :: r2, 80))
    else quotS r (acc ++ [c])
theorem bld_fr {S : Nat → Prop} {B b : Nat} {bs : List Value} {w w' : World} (h : Lib.IsBuilder 209 5 B b bs w) (hf : Fr S w w') (hS : ∀ k, S k → k < B) : Lib.IsBuilder 209 5 B b bs w' := by
  have key : ∀ p, Lib.BuilderAt 209 5 B b p bs w → Lib.BuilderAt 209 5 B b p bs w' := by
    rintro p ⟨hB, v, hb, ⟨hl, ⟨hv, h0⟩ | ⟨k, cap, cur, hv, hk, hh, r⟩⟩, hne⟩
    · exact ⟨hB, v, hf.obj hb (fun hs => by have := hS _ hs; omega), ⟨hl, .inl ⟨hv, h0⟩⟩, hne⟩
    · exact ⟨hB, v, hf.obj hb (fun hs => by have := hS _ hs; omega), ⟨hl, .inr ⟨k, cap, cur, hv, hk, hf.obj hh (fun hs => by have := hS _ hs; omega), r⟩⟩, hne⟩
  exact h.elim (fun x => .inl (key _ x)) (fun x => .inr (key _ x))
theorem write_any {B b : Nat} {acc : List UInt8} {c : UInt8} {w : World} (h : Lib.IsBuilder 209 5 B b (Lib.byteCells acc) w) (hl : acc.length ≤ 5000000000) (hB : B ≤ w.heap.size) :
    Calls Tryz.prog 160 #[.pointer (some ⟨b, 0, none⟩), .int .u8 c.toNat] w fun e w' => e = .returned .nilIface ∧ Lib.IsBuilder 209 5 B b (Lib.byteCells (acc ++ [c])) w' ∧ Below B w w' := by
  refine (Any.Builder_WriteByte lays167 builder_extra_167 B b (Lib.byteCells acc) c.toNat w h (by rw [Lib.byteCells_length]; omega) hB).mono ?_
  rintro e w' ⟨h1, h2, h3⟩
  refine ⟨h1, .inr ?_, h3⟩
  have : Lib.byteCells (acc ++ [c]) = Lib.byteCells acc ++ [.int .u8 c.toNat] := by simp [Lib.byteCells]
  rw [this]; exact h2
set_option maxRecDepth 100000 in
set_option maxHeartbeats 12800000 in
theorem quoted_any {W : World} {g : Nat} {s : ByteArray} {i0 : Nat} {R : List UInt8 × List UInt8 × Int} (hg : W.heap[g]? = some (oSc s i0 0)) (hs : s.size < 4294967281) (hi0 : i0 ≤ s.size) (hR : quotS (s.data.toList.drop i0) [] = R) :
    Calls Tryz.prog 96 #[.pointer (some ⟨g, 0, none⟩)] W fun e' w' => ∃ x j, e' = .returned (.string x) ∧ j ≤ s.size ∧ (R.2.2 = 0 → x = ⟨R.1.toArray⟩ ∧ s.data.toList.drop j = R.2.1) ∧ w'.heap[g]? = some (oSc s j R.2.2) ∧ Fr (fun b => b = g) W w' := by
  have hgl := lt_of_obj hg
  have hbl := Lib.hid (Lib.fresh_isBuilder 209 5 W)
  have Hg := Lib.hid (Below.box hg ((Below.refl W.heap.size W).alloc (Nat.le_refl _) (.cells #[.pointer none, .slice none 0 0] 209)) hgl)
  have HR := Lib.hid hR
  have fr0 := (Fr.refl (fun b => b = g) W).alloc (.cells #[.pointer none, .slice none 0 0] 209)
  clear hg hR
  go_enter Tryz.func96, Tryz.ntmps96
  go_wp2
  go_step3
  go_wp2
  go_step3
  go_wp2
  go_loopw [] (fun wr => ∃ (i : Nat) (acc : List UInt8), i0 ≤ i ∧ i ≤ s.size ∧ acc.length ≤ i ∧ Hid (quotS (s.data.toList.drop i) acc = R) ∧ Hid (wr.heap[g]? = some (oSc s i 0)) ∧ Hid (Lib.IsBuilder 209 5 W.heap.size W.heap.size (Lib.byteCells acc) wr) ∧ Fr (fun b => b = g) W wr) (fun wr => s.size - (match wr.cell? ⟨g, 1, none⟩ with | some v => (intOf v).toNat | none => 0))
  case atStart => exact ⟨i0, [], Nat.le_refl _, hi0, by simp, HR, Hg, hbl, fr0⟩
  case round =>
    obtain ⟨i, acc, h1, h2, h3, hr, hb, hbl, fr⟩ := hrel
    obtain ⟨l, hl⟩ : ∃ l, s.data.toList.drop i = l := ⟨_, rfl⟩
    have nx := next_any hb.out h2 hl
    rw [hl] at hr
    obtain ⟨-, q1, -, -⟩ := sc_cells hb.out
    rw [q1]
    clear q1
    cases l with
    | nil =>
      have hq : nextS [] 0 = (0, false, 0) := rfl
      rw [hq] at nx
      have hR : Hid (R = ([], [], 80)) := Lib.hid hr.out.symm
      clear hr hb
      go_wp2_with (go_at_call 94; refine nx.mono ?_; clear nx; rintro e' w2 ⟨rfl, hb2, fr2⟩; obtain ⟨c0, c1, c2, cf⟩ := sc_cells hb2; have f1 := cf 1; have f2 := cf 2; clear cf; have fr3 : Fr (fun b => b = g) W w2 := fr.trans fr2 (fun b hb => .inl hb); have hbl2 := Lib.hid (bld_fr hbl.out fr2 (fun k hk => by omega)); have hb2 := Lib.hid hb2)
      rw [Exit.noGoto_ret]
      go_ret
      exact ⟨_, i, rfl, h2, fun h => absurd h (by rw [hR.out]; simp), by rw [hR.out]; exact (sc_set hb2.out).2 80, Fr.setCell fr3 (p := ⟨g, 2, none⟩) (.inl rfl) _⟩
    | cons c r =>
      by_cases hm : mayB c = false
      · have hq : nextS (c :: r) 0 = (0, false, 81) := by unfold nextS; simp [hm]
        rw [hq] at nx
        have hR : Hid (R = ([], c :: r, 81)) := Lib.hid (by rw [← hr.out]; unfold quotS; rw [if_pos hm])
        clear hr hb
        go_wp2_with (go_at_call 94; refine nx.mono ?_; clear nx; rintro e' w2 ⟨rfl, hb2, fr2⟩; obtain ⟨c0, c1, c2, cf⟩ := sc_cells hb2; have f1 := cf 1; have f2 := cf 2; clear cf; have fr3 : Fr (fun b => b = g) W w2 := fr.trans fr2 (fun b hb => .inl hb); have hbl2 := Lib.hid (bld_fr hbl.out fr2 (fun k hk => by omega)); have hb2 := Lib.hid hb2)
        rw [Exit.noGoto_ret]
        go_ret
        exact ⟨_, i, rfl, h2, fun h => absurd h (by rw [hR.out]; simp), by rw [hR.out]; exact hb2.out, fr3⟩
      · have hm2 : mayB c = true := by simpa using hm
        have hq : nextS (c :: r) 0 = ((c.toNat : Int), true, 0) := by unfold nextS; simp [hm2]
        rw [hq] at nx
        obtain ⟨hlt, -, hd⟩ := drop_cons hl
        have hw2 : IntKind.i64.wrap ((i : Int) + 1) = ((i + 1 : Nat) : Int) := (IntWalk.i64_in _ (by omega)).trans (by omega)
        by_cases h34 : c = 34
        · subst h34
          rw [show ((34 : UInt8).toNat : Int) = 34 from rfl] at nx
          have hd' := Lib.hid hd
          cases r with
          | nil =>
            have hq2 : nextS [] 0 = (0, false, 0) := rfl
            have hR : Hid (R = (acc, [], 0)) := Lib.hid (by rw [← hr.out]; unfold quotS; rw [if_neg hm, if_pos rfl])
            clear hr hb hm hm2
            go_wp2_with (first | (go_at_call 94; refine nx.mono ?_; clear nx; rintro e' w2 ⟨rfl, hb2, fr2⟩; obtain ⟨c0, c1, c2, cf⟩ := sc_cells hb2; have f1 := cf 1; have f2 := cf 2; clear cf; have fr3 : Fr (fun b => b = g) W w2 := fr.trans fr2 (fun b hb => .inl hb); have hbl2 := Lib.hid (bld_fr hbl.out fr2 (fun k hk => by omega)); have hb3 : (w2.setCell ⟨g, 1, none⟩ (.int .i64 ((i : Int) + 1))).heap[g]? = some (oSc s ((i + 1 : Nat) : Int) 0) := (sc_set hb2).1 _; have fr4 : Fr (fun b => b = g) W (w2.setCell ⟨g, 1, none⟩ (.int .i64 ((i : Int) + 1))) := Fr.setCell fr3 (p := ⟨g, 1, none⟩) (.inl rfl) _; have hbl3 := Lib.hid (bld_fr hbl2.out (Fr.setCell (S := fun b => b = g) (Fr.refl _ w2) (p := ⟨g, 1, none⟩) (.inl rfl) (.int .i64 ((i : Int) + 1))) (fun k hk => by omega)); have hsz3 := fr4.size; have nx2 := next_any hb3 (by omega) hd; rw [hq2] at nx2; have hb2 := Lib.hid hb2; have hb3 := Lib.hid hb3) | (go_at_call 94; refine nx2.mono ?_; clear nx2; rintro e' w4 ⟨rfl, hb4, fr5⟩; obtain ⟨c0, c1, c2, cf⟩ := sc_cells hb4; have f1 := cf 1; have f2 := cf 2; clear cf c0; have fr6 : Fr (fun b => b = g) W w4 := fr4.trans fr5 (fun b hb => .inl hb); have hsz4 := fr6.size; have hbl4 := Lib.hid (bld_fr hbl3.out fr5 (fun k hk => by omega)); have hb4 := Lib.hid hb4) | (go_at_call 159; refine (Tryz.Builder_String_any W.heap.size W.heap.size acc _ hbl4.out hsz4).mono ?_; rintro e' w5 ⟨rfl, bel5⟩))
            rw [Exit.noGoto_ret]
            go_ret
            exact ⟨_, i + 1, rfl, by omega, fun h => ⟨by rw [hR.out], by rw [hR.out]; exact hd'.out⟩, by rw [hR.out]; exact Below.box hb4.out bel5 hgl, fr6.trans (Fr.ofB bel5) (fun b hb => .inr hb)⟩
          | cons d r2 =>
            by_cases hm3 : mayB d = false
            · have hq2 : nextS (d :: r2) 0 = (0, false, 81) := by unfold nextS; simp [hm3]
              have hR : Hid (R = ([], d :: r2, 81)) := Lib.hid (by rw [← hr.out]; unfold quotS; rw [if_neg hm, if_pos rfl]; exact if_pos hm3)
              clear hr hb hm hm2
              go_wp2_with (first | (go_at_call 94; refine nx.mono ?_; clear nx; rintro e' w2 ⟨rfl, hb2, fr2⟩; obtain ⟨c0, c1, c2, cf⟩ := sc_cells hb2; have f1 := cf 1; have f2 := cf 2; clear cf; have fr3 : Fr (fun b => b = g) W w2 := fr.trans fr2 (fun b hb => .inl hb); have hbl2 := Lib.hid (bld_fr hbl.out fr2 (fun k hk => by omega)); have hb3 : (w2.setCell ⟨g, 1, none⟩ (.int .i64 ((i : Int) + 1))).heap[g]? = some (oSc s ((i + 1 : Nat) : Int) 0) := (sc_set hb2).1 _; have fr4 : Fr (fun b => b = g) W (w2.setCell ⟨g, 1, none⟩ (.int .i64 ((i : Int) + 1))) := Fr.setCell fr3 (p := ⟨g, 1, none⟩) (.inl rfl) _; have hbl3 := Lib.hid (bld_fr hbl2.out (Fr.setCell (S := fun b => b = g) (Fr.refl _ w2) (p := ⟨g, 1, none⟩) (.inl rfl) (.int .i64 ((i : Int) + 1))) (fun k hk => by omega)); have hsz3 := fr4.size; have nx2 := next_any hb3 (by omega) hd; rw [hq2] at nx2; have hb2 := Lib.hid hb2; have hb3 := Lib.hid hb3) | (go_at_call 94; refine nx2.mono ?_; clear nx2; rintro e' w4 ⟨rfl, hb4, fr5⟩; obtain ⟨c0, c1, c2, cf⟩ := sc_cells hb4; have f1 := cf 1; have f2 := cf 2; clear cf c0; have fr6 : Fr (fun b => b = g) W w4 := fr4.trans fr5 (fun b hb => .inl hb); have hsz4 := fr6.size; have hbl4 := Lib.hid (bld_fr hbl3.out fr5 (fun k hk => by omega)); have hb4 := Lib.hid hb4) | (go_at_call 159; refine (Tryz.Builder_String_any W.heap.size W.heap.size acc _ hbl4.out hsz4).mono ?_; rintro e' w5 ⟨rfl, bel5⟩))
              rw [Exit.noGoto_ret]
              go_ret
              exact ⟨_, i + 1, rfl, by omega, fun h => absurd h (by rw [hR.out]; simp), by rw [hR.out]; exact Below.box hb4.out bel5 hgl, fr6.trans (Fr.ofB bel5) (fun b hb => .inr hb)⟩
            · have hm4 : mayB d = true := by simpa using hm3
              have hq2 : nextS (d :: r2) 0 = ((d.toNat : Int), true, 0) := by unfold nextS; simp [hm4]
              by_cases h32 : d = 32
              · subst h32
                rw [show ((32 : UInt8).toNat : Int) = 32 from rfl] at hq2
                have hR : Hid (R = (acc, 32 :: r2, 0)) := Lib.hid (by rw [← hr.out]; unfold quotS; rw [if_neg hm, if_pos rfl]; exact (if_neg hm3).trans (if_pos rfl))
                clear hr hb hm hm2
                go_wp2_with (first | (go_at_call 94; refine nx.mono ?_; clear nx; rintro e' w2 ⟨rfl, hb2, fr2⟩; obtain ⟨c0, c1, c2, cf⟩ := sc_cells hb2; have f1 := cf 1; have f2 := cf 2; clear cf; have fr3 : Fr (fun b => b = g) W w2 := fr.trans fr2 (fun b hb => .inl hb); have hbl2 := Lib.hid (bld_fr hbl.out fr2 (fun k hk => by omega)); have hb3 : (w2.setCell ⟨g, 1, none⟩ (.int .i64 ((i : Int) + 1))).heap[g]? = some (oSc s ((i + 1 : Nat) : Int) 0) := (sc_set hb2).1 _; have fr4 : Fr (fun b => b = g) W (w2.setCell ⟨g, 1, none⟩ (.int .i64 ((i : Int) + 1))) := Fr.setCell fr3 (p := ⟨g, 1, none⟩) (.inl rfl) _; have hbl3 := Lib.hid (bld_fr hbl2.out (Fr.setCell (S := fun b => b = g) (Fr.refl _ w2) (p := ⟨g, 1, none⟩) (.inl rfl) (.int .i64 ((i : Int) + 1))) (fun k hk => by omega)); have hsz3 := fr4.size; have nx2 := next_any hb3 (by omega) hd; rw [hq2] at nx2; have hb2 := Lib.hid hb2; have hb3 := Lib.hid hb3) | (go_at_call 94; refine nx2.mono ?_; clear nx2; rintro e' w4 ⟨rfl, hb4, fr5⟩; obtain ⟨c0, c1, c2, cf⟩ := sc_cells hb4; have f1 := cf 1; have f2 := cf 2; clear cf c0; have fr6 : Fr (fun b => b = g) W w4 := fr4.trans fr5 (fun b hb => .inl hb); have hsz4 := fr6.size; have hbl4 := Lib.hid (bld_fr hbl3.out fr5 (fun k hk => by omega)); have hb4 := Lib.hid hb4) | (go_at_call 159; refine (Tryz.Builder_String_any W.heap.size W.heap.size acc _ hbl4.out hsz4).mono ?_; rintro e' w5 ⟨rfl, bel5⟩))
                rw [Exit.noGoto_ret]
                go_ret
                exact ⟨_, i + 1, rfl, by omega, fun h => ⟨by rw [hR.out], by rw [hR.out]; exact hd'.out⟩, by rw [hR.out]; exact Below.box hb4.out bel5 hgl, fr6.trans (Fr.ofB bel5) (fun b hb => .inr hb)⟩
              · have hb1 : ((d.toNat : Int) != 32) = true := by have hn : d.toNat ≠ 32 := fun e => h32 (UInt8.toNat_inj.1 e); exact bne_iff_ne.mpr (by omega)
                have hR : Hid (R = ([], d :: r2, 80)) := Lib.hid (by rw [← hr.out]; unfold quotS; rw [if_neg hm, if_pos rfl]; exact (if_neg hm3).trans (if_neg h32))
                clear hr hb hm hm2
                go_wp2_with (first | (go_at_call 94; refine nx.mono ?_; clear nx; rintro e' w2 ⟨rfl, hb2, fr2⟩; obtain ⟨c0, c1, c2, cf⟩ := sc_cells hb2; have f1 := cf 1; have f2 := cf 2; clear cf; have fr3 : Fr (fun b => b = g) W w2 := fr.trans fr2 (fun b hb => .inl hb); have hbl2 := Lib.hid (bld_fr hbl.out fr2 (fun k hk => by omega)); have hb3 : (w2.setCell ⟨g, 1, none⟩ (.int .i64 ((i : Int) + 1))).heap[g]? = some (oSc s ((i + 1 : Nat) : Int) 0) := (sc_set hb2).1 _; have fr4 : Fr (fun b => b = g) W (w2.setCell ⟨g, 1, none⟩ (.int .i64 ((i : Int) + 1))) := Fr.setCell fr3 (p := ⟨g, 1, none⟩) (.inl rfl) _; have hbl3 := Lib.hid (bld_fr hbl2.out (Fr.setCell (S := fun b => b = g) (Fr.refl _ w2) (p := ⟨g, 1, none⟩) (.inl rfl) (.int .i64 ((i : Int) + 1))) (fun k hk => by omega)); have hsz3 := fr4.size; have nx2 := next_any hb3 (by omega) hd; rw [hq2] at nx2; have hb2 := Lib.hid hb2; have hb3 := Lib.hid hb3) | (go_at_call 94; refine nx2.mono ?_; clear nx2; rintro e' w4 ⟨rfl, hb4, fr5⟩; obtain ⟨c0, c1, c2, cf⟩ := sc_cells hb4; have f1 := cf 1; have f2 := cf 2; clear cf c0; have fr6 : Fr (fun b => b = g) W w4 := fr4.trans fr5 (fun b hb => .inl hb); have hsz4 := fr6.size; have hbl4 := Lib.hid (bld_fr hbl3.out fr5 (fun k hk => by omega)); have hb4 := Lib.hid hb4))
                rw [Exit.noGoto_ret]
                go_ret
                exact ⟨_, i + 1, rfl, by omega, fun h => absurd h (by rw [hR.out]; simp), by rw [hR.out]; exact (sc_set hb4.out).2 80, Fr.setCell fr6 (p := ⟨g, 2, none⟩) (.inl rfl) _⟩
        · by_cases h92 : c = 92
          · subst h92
            rw [show ((92 : UInt8).toNat : Int) = 92 from rfl] at nx
            have hd' := Lib.hid hd
            cases r with
            | nil =>
              have hq2 : nextS [] 0 = (0, false, 0) := rfl
              have hR : Hid (R = ([], [], 80)) := Lib.hid (by rw [← hr.out]; unfold quotS; rw [if_neg hm, if_neg (by decide), if_pos rfl])
              clear hr hb hm hm2
              go_wp2_with (first | (go_at_call 94; refine nx.mono ?_; clear nx; rintro e' w2 ⟨rfl, hb2, fr2⟩; obtain ⟨c0, c1, c2, cf⟩ := sc_cells hb2; have f1 := cf 1; have f2 := cf 2; clear cf; have fr3 : Fr (fun b => b = g) W w2 := fr.trans fr2 (fun b hb => .inl hb); have hbl2 := Lib.hid (bld_fr hbl.out fr2 (fun k hk => by omega)); have hb3 : (w2.setCell ⟨g, 1, none⟩ (.int .i64 ((i : Int) + 1))).heap[g]? = some (oSc s ((i + 1 : Nat) : Int) 0) := (sc_set hb2).1 _; have fr4 : Fr (fun b => b = g) W (w2.setCell ⟨g, 1, none⟩ (.int .i64 ((i : Int) + 1))) := Fr.setCell fr3 (p := ⟨g, 1, none⟩) (.inl rfl) _; have hbl3 := Lib.hid (bld_fr hbl2.out (Fr.setCell (S := fun b => b = g) (Fr.refl _ w2) (p := ⟨g, 1, none⟩) (.inl rfl) (.int .i64 ((i : Int) + 1))) (fun k hk => by omega)); have hsz3 := fr4.size; have nx2 := next_any hb3 (by omega) hd; rw [hq2] at nx2; have hb2 := Lib.hid hb2; have hb3 := Lib.hid hb3) | (go_at_call 94; refine nx2.mono ?_; clear nx2; rintro e' w4 ⟨rfl, hb4, fr5⟩; obtain ⟨c0, c1, c2, cf⟩ := sc_cells hb4; have f1 := cf 1; have f2 := cf 2; clear cf c0; have fr6 : Fr (fun b => b = g) W w4 := fr4.trans fr5 (fun b hb => .inl hb); have hsz4 := fr6.size; have hbl4 := Lib.hid (bld_fr hbl3.out fr5 (fun k hk => by omega)); have hb4 := Lib.hid hb4))
              rw [Exit.noGoto_ret]
              go_ret
              exact ⟨_, i + 1, rfl, by omega, fun h => absurd h (by rw [hR.out]; simp), by rw [hR.out]; exact (sc_set hb4.out).2 80, Fr.setCell fr6 (p := ⟨g, 2, none⟩) (.inl rfl) _⟩
            | cons d r2 =>
              by_cases hm3 : mayB d = false
              · have hq2 : nextS (d :: r2) 0 = (0, false, 81) := by unfold nextS; simp [hm3]
                have hR : Hid (R = ([], d :: r2, 81)) := Lib.hid (by rw [← hr.out]; unfold quotS; rw [if_neg hm, if_neg (by decide), if_pos rfl]; exact if_pos hm3)
                clear hr hb hm hm2
                go_wp2_with (first | (go_at_call 94; refine nx.mono ?_; clear nx; rintro e' w2 ⟨rfl, hb2, fr2⟩; obtain ⟨c0, c1, c2, cf⟩ := sc_cells hb2; have f1 := cf 1; have f2 := cf 2; clear cf; have fr3 : Fr (fun b => b = g) W w2 := fr.trans fr2 (fun b hb => .inl hb); have hbl2 := Lib.hid (bld_fr hbl.out fr2 (fun k hk => by omega)); have hb3 : (w2.setCell ⟨g, 1, none⟩ (.int .i64 ((i : Int) + 1))).heap[g]? = some (oSc s ((i + 1 : Nat) : Int) 0) := (sc_set hb2).1 _; have fr4 : Fr (fun b => b = g) W (w2.setCell ⟨g, 1, none⟩ (.int .i64 ((i : Int) + 1))) := Fr.setCell fr3 (p := ⟨g, 1, none⟩) (.inl rfl) _; have hbl3 := Lib.hid (bld_fr hbl2.out (Fr.setCell (S := fun b => b = g) (Fr.refl _ w2) (p := ⟨g, 1, none⟩) (.inl rfl) (.int .i64 ((i : Int) + 1))) (fun k hk => by omega)); have hsz3 := fr4.size; have nx2 := next_any hb3 (by omega) hd; rw [hq2] at nx2; have hb2 := Lib.hid hb2; have hb3 := Lib.hid hb3) | (go_at_call 94; refine nx2.mono ?_; clear nx2; rintro e' w4 ⟨rfl, hb4, fr5⟩; obtain ⟨c0, c1, c2, cf⟩ := sc_cells hb4; have f1 := cf 1; have f2 := cf 2; clear cf c0; have fr6 : Fr (fun b => b = g) W w4 := fr4.trans fr5 (fun b hb => .inl hb); have hsz4 := fr6.size; have hbl4 := Lib.hid (bld_fr hbl3.out fr5 (fun k hk => by omega)); have hb4 := Lib.hid hb4))
                rw [Exit.noGoto_ret]
                go_ret
                exact ⟨_, i + 1, rfl, by omega, fun h => absurd h (by rw [hR.out]; simp), by rw [hR.out]; exact hb4.out, fr6⟩
              · have hm4 : mayB d = true := by simpa using hm3
                have hq2 : nextS (d :: r2) 0 = ((d.toNat : Int), true, 0) := by unfold nextS; simp [hm4]
                obtain ⟨hlt2, -, hd2⟩ := drop_cons hd
                have hd2 := Lib.hid hd2
                have hw3 : IntKind.i64.wrap ((i : Int) + 1 + 1) = ((i + 2 : Nat) : Int) := (IntWalk.i64_in _ (by omega)).trans (by omega)
                by_cases hd34 : d = 34
                · subst hd34
                  rw [show ((34 : UInt8).toNat : Int) = 34 from rfl] at hq2
                  have hR : Hid (quotS r2 (acc ++ [34]) = R) := Lib.hid (by rw [← hr.out, quotS, if_neg hm, if_neg (by decide), if_pos rfl]; exact ((if_neg hm3).trans (if_pos (by decide))).symm)
                  clear hr hb hm hm2
                  go_wp2_with (first | (go_at_call 94; refine nx.mono ?_; clear nx; rintro e' w2 ⟨rfl, hb2, fr2⟩; obtain ⟨c0, c1, c2, cf⟩ := sc_cells hb2; have f1 := cf 1; have f2 := cf 2; clear cf; have fr3 : Fr (fun b => b = g) W w2 := fr.trans fr2 (fun b hb => .inl hb); have hbl2 := Lib.hid (bld_fr hbl.out fr2 (fun k hk => by omega)); have hb3 : (w2.setCell ⟨g, 1, none⟩ (.int .i64 ((i : Int) + 1))).heap[g]? = some (oSc s ((i + 1 : Nat) : Int) 0) := (sc_set hb2).1 _; have fr4 : Fr (fun b => b = g) W (w2.setCell ⟨g, 1, none⟩ (.int .i64 ((i : Int) + 1))) := Fr.setCell fr3 (p := ⟨g, 1, none⟩) (.inl rfl) _; have hbl3 := Lib.hid (bld_fr hbl2.out (Fr.setCell (S := fun b => b = g) (Fr.refl _ w2) (p := ⟨g, 1, none⟩) (.inl rfl) (.int .i64 ((i : Int) + 1))) (fun k hk => by omega)); have hsz3 := fr4.size; have nx2 := next_any hb3 (by omega) hd; rw [hq2] at nx2; have hb2 := Lib.hid hb2; have hb3 := Lib.hid hb3) | (go_at_call 94; refine nx2.mono ?_; clear nx2; rintro e' w4 ⟨rfl, hb4, fr5⟩; obtain ⟨c0, c1, c2, cf⟩ := sc_cells hb4; have f1 := cf 1; have f2 := cf 2; clear cf c0; have fr6 : Fr (fun b => b = g) W w4 := fr4.trans fr5 (fun b hb => .inl hb); have hsz4 := fr6.size; have hbl4 := Lib.hid (bld_fr hbl3.out fr5 (fun k hk => by omega)); have hb5 : (w4.setCell ⟨g, 1, none⟩ (.int .i64 ((i : Int) + 1 + 1))).heap[g]? = some (oSc s ((i + 2 : Nat) : Int) 0) := (sc_set hb4).1 _; have fr7 : Fr (fun b => b = g) W (w4.setCell ⟨g, 1, none⟩ (.int .i64 ((i : Int) + 1 + 1))) := Fr.setCell fr6 (p := ⟨g, 1, none⟩) (.inl rfl) _; have hbl5 := Lib.hid (bld_fr hbl4.out (Fr.setCell (S := fun b => b = g) (Fr.refl _ w4) (p := ⟨g, 1, none⟩) (.inl rfl) (.int .i64 ((i : Int) + 1 + 1))) (fun k hk => by omega)); have hsz5 := fr7.size; have hb4 := Lib.hid hb4; have hb5 := Lib.hid hb5) | (go_at_call 160; refine (write_any (c := 34) hbl5.out (by omega) (by omega)).mono ?_; rintro e' w6 ⟨rfl, hbl6, bel6⟩))
                  have hb6 := Lib.hid (Below.box hb5.out bel6 hgl)
                  refine ⟨⟨i + 2, acc ++ [34], by omega, by omega, by simp; omega, Lib.hid (by rw [hd2.out]; exact hR.out), hb6, Lib.hid hbl6, fr7.trans (Fr.ofB bel6) (fun b hb => .inr hb)⟩, ?_⟩
                  rw [(sc_cells hb6.out).2.1]
                  simp [intOf]; omega
                · by_cases hd92 : d = 92
                  · subst hd92
                    rw [show ((92 : UInt8).toNat : Int) = 92 from rfl] at hq2
                    have hR : Hid (quotS r2 (acc ++ [92]) = R) := Lib.hid (by rw [← hr.out, quotS, if_neg hm, if_neg (by decide), if_pos rfl]; exact ((if_neg hm3).trans (if_pos (by decide))).symm)
                    clear hr hb hm hm2
                    go_wp2_with (first | (go_at_call 94; refine nx.mono ?_; clear nx; rintro e' w2 ⟨rfl, hb2, fr2⟩; obtain ⟨c0, c1, c2, cf⟩ := sc_cells hb2; have f1 := cf 1; have f2 := cf 2; clear cf; have fr3 : Fr (fun b => b = g) W w2 := fr.trans fr2 (fun b hb => .inl hb); have hbl2 := Lib.hid (bld_fr hbl.out fr2 (fun k hk => by omega)); have hb3 : (w2.setCell ⟨g, 1, none⟩ (.int .i64 ((i : Int) + 1))).heap[g]? = some (oSc s ((i + 1 : Nat) : Int) 0) := (sc_set hb2).1 _; have fr4 : Fr (fun b => b = g) W (w2.setCell ⟨g, 1, none⟩ (.int .i64 ((i : Int) + 1))) := Fr.setCell fr3 (p := ⟨g, 1, none⟩) (.inl rfl) _; have hbl3 := Lib.hid (bld_fr hbl2.out (Fr.setCell (S := fun b => b = g) (Fr.refl _ w2) (p := ⟨g, 1, none⟩) (.inl rfl) (.int .i64 ((i : Int) + 1))) (fun k hk => by omega)); have hsz3 := fr4.size; have nx2 := next_any hb3 (by omega) hd; rw [hq2] at nx2; have hb2 := Lib.hid hb2; have hb3 := Lib.hid hb3) | (go_at_call 94; refine nx2.mono ?_; clear nx2; rintro e' w4 ⟨rfl, hb4, fr5⟩; obtain ⟨c0, c1, c2, cf⟩ := sc_cells hb4; have f1 := cf 1; have f2 := cf 2; clear cf c0; have fr6 : Fr (fun b => b = g) W w4 := fr4.trans fr5 (fun b hb => .inl hb); have hsz4 := fr6.size; have hbl4 := Lib.hid (bld_fr hbl3.out fr5 (fun k hk => by omega)); have hb5 : (w4.setCell ⟨g, 1, none⟩ (.int .i64 ((i : Int) + 1 + 1))).heap[g]? = some (oSc s ((i + 2 : Nat) : Int) 0) := (sc_set hb4).1 _; have fr7 : Fr (fun b => b = g) W (w4.setCell ⟨g, 1, none⟩ (.int .i64 ((i : Int) + 1 + 1))) := Fr.setCell fr6 (p := ⟨g, 1, none⟩) (.inl rfl) _; have hbl5 := Lib.hid (bld_fr hbl4.out (Fr.setCell (S := fun b => b = g) (Fr.refl _ w4) (p := ⟨g, 1, none⟩) (.inl rfl) (.int .i64 ((i : Int) + 1 + 1))) (fun k hk => by omega)); have hsz5 := fr7.size; have hb4 := Lib.hid hb4; have hb5 := Lib.hid hb5) | (go_at_call 160; refine (write_any (c := 92) hbl5.out (by omega) (by omega)).mono ?_; rintro e' w6 ⟨rfl, hbl6, bel6⟩))
                    have hb6 := Lib.hid (Below.box hb5.out bel6 hgl)
                    refine ⟨⟨i + 2, acc ++ [92], by omega, by omega, by simp; omega, Lib.hid (by rw [hd2.out]; exact hR.out), hb6, Lib.hid hbl6, fr7.trans (Fr.ofB bel6) (fun b hb => .inr hb)⟩, ?_⟩
                    rw [(sc_cells hb6.out).2.1]
                    simp [intOf]; omega
                  · have hb1 : ((d.toNat : Int) != 34) = true := by have hn : d.toNat ≠ 34 := fun e => hd34 (UInt8.toNat_inj.1 e); exact bne_iff_ne.mpr (by omega)
                    have hb9 : ((d.toNat : Int) != 92) = true := by have hn : d.toNat ≠ 92 := fun e => hd92 (UInt8.toNat_inj.1 e); exact bne_iff_ne.mpr (by omega)
                    have hR : Hid (R = ([], d :: r2, 80)) := Lib.hid (by rw [← hr.out]; unfold quotS; rw [if_neg hm, if_neg (by decide), if_pos rfl]; exact (if_neg hm3).trans (if_neg (fun h => h.elim hd34 hd92)))
                    clear hr hb hm hm2
                    go_wp2_with (first | (go_at_call 94; refine nx.mono ?_; clear nx; rintro e' w2 ⟨rfl, hb2, fr2⟩; obtain ⟨c0, c1, c2, cf⟩ := sc_cells hb2; have f1 := cf 1; have f2 := cf 2; clear cf; have fr3 : Fr (fun b => b = g) W w2 := fr.trans fr2 (fun b hb => .inl hb); have hbl2 := Lib.hid (bld_fr hbl.out fr2 (fun k hk => by omega)); have hb3 : (w2.setCell ⟨g, 1, none⟩ (.int .i64 ((i : Int) + 1))).heap[g]? = some (oSc s ((i + 1 : Nat) : Int) 0) := (sc_set hb2).1 _; have fr4 : Fr (fun b => b = g) W (w2.setCell ⟨g, 1, none⟩ (.int .i64 ((i : Int) + 1))) := Fr.setCell fr3 (p := ⟨g, 1, none⟩) (.inl rfl) _; have hbl3 := Lib.hid (bld_fr hbl2.out (Fr.setCell (S := fun b => b = g) (Fr.refl _ w2) (p := ⟨g, 1, none⟩) (.inl rfl) (.int .i64 ((i : Int) + 1))) (fun k hk => by omega)); have hsz3 := fr4.size; have nx2 := next_any hb3 (by omega) hd; rw [hq2] at nx2; have hb2 := Lib.hid hb2; have hb3 := Lib.hid hb3) | (go_at_call 94; refine nx2.mono ?_; clear nx2; rintro e' w4 ⟨rfl, hb4, fr5⟩; obtain ⟨c0, c1, c2, cf⟩ := sc_cells hb4; have f1 := cf 1; have f2 := cf 2; clear cf c0; have fr6 : Fr (fun b => b = g) W w4 := fr4.trans fr5 (fun b hb => .inl hb); have hsz4 := fr6.size; have hbl4 := Lib.hid (bld_fr hbl3.out fr5 (fun k hk => by omega)); have hb4 := Lib.hid hb4))
                    rw [Exit.noGoto_ret]
                    go_ret
                    exact ⟨_, i + 1, rfl, by omega, fun h => absurd h (by rw [hR.out]; simp), by rw [hR.out]; exact (sc_set hb4.out).2 80, Fr.setCell fr6 (p := ⟨g, 2, none⟩) (.inl rfl) _⟩
          · have hb1 : ((c.toNat : Int) == 34) = false := by have hn : c.toNat ≠ 34 := fun e => h34 (UInt8.toNat_inj.1 e); exact beq_eq_false_iff_ne.mpr (by omega)
            have hb9 : ((c.toNat : Int) == 92) = false := by have hn : c.toNat ≠ 92 := fun e => h92 (UInt8.toNat_inj.1 e); exact beq_eq_false_iff_ne.mpr (by omega)
            have hR : Hid (quotS r (acc ++ [c]) = R) := Lib.hid (by rw [← hr.out]; conv => rhs; unfold quotS; rw [if_neg hm, if_neg h34, if_neg h92])
            have hd' := Lib.hid hd
            clear hr hb hm hm2 h34 h92 hd
            go_wp2_with (first | (go_at_call 94; refine nx.mono ?_; clear nx; rintro e' w2 ⟨rfl, hb2, fr2⟩; obtain ⟨c0, c1, c2, cf⟩ := sc_cells hb2; have f1 := cf 1; have f2 := cf 2; clear cf; have fr3 : Fr (fun b => b = g) W w2 := fr.trans fr2 (fun b hb => .inl hb); have hbl2 := Lib.hid (bld_fr hbl.out fr2 (fun k hk => by omega)); have hb3 : (w2.setCell ⟨g, 1, none⟩ (.int .i64 ((i : Int) + 1))).heap[g]? = some (oSc s ((i + 1 : Nat) : Int) 0) := (sc_set hb2).1 _; have fr4 : Fr (fun b => b = g) W (w2.setCell ⟨g, 1, none⟩ (.int .i64 ((i : Int) + 1))) := Fr.setCell fr3 (p := ⟨g, 1, none⟩) (.inl rfl) _; have hbl3 := Lib.hid (bld_fr hbl2.out (Fr.setCell (S := fun b => b = g) (Fr.refl _ w2) (p := ⟨g, 1, none⟩) (.inl rfl) (.int .i64 ((i : Int) + 1))) (fun k hk => by omega)); have hsz3 := fr4.size; have hb2 := Lib.hid hb2; have hb3 := Lib.hid hb3) | (go_at_call 160; refine (write_any hbl3.out (by omega) hsz3).mono ?_; rintro e' w5 ⟨rfl, hbl5, bel5⟩))
            have hb6 := Lib.hid (Below.box hb3.out bel5 hgl)
            refine ⟨⟨i + 1, acc ++ [c], by omega, by omega, by simp; omega, Lib.hid (by rw [hd'.out]; exact hR.out), hb6, Lib.hid hbl5, fr4.trans (Fr.ofB bel5) (fun b hb => .inr hb)⟩, ?_⟩
            rw [(sc_cells hb6.out).2.1]
            simp [intOf]; omega
end Go.Proofs.YtnljjlaececnkaaGreatDoor
/-
  Words. No condition but the program's bound.
-/
namespace Go.Proofs.YtnljjlaececnkaaGreatDoor
open Go.RowKit
set_option linter.unusedVariables false
set_option linter.unusedSimpArgs false
/-- What a line's words are: from here on, with these read. -/
inductive WR : List UInt8 → List ByteArray → List ByteArray × Int → Prop
  | nil (acc : List ByteArray) : WR [] acc (acc, 0)
  | bad (c : UInt8) (r : List UInt8) (acc : List ByteArray) (hm : mayB c = false) : WR (c :: r) acc ([], 81)
  | sp (r : List UInt8) (acc : List ByteArray) (R : List ByteArray × Int) (k : WR r acc R) : WR (32 :: r) acc R
  | com (r r' : List UInt8) (acc : List ByteArray) (R : List ByteArray × Int) (h : runS (-1) (35 :: r) = (r', 0)) (k : WR r' acc R) : WR (35 :: r) acc R
  | comE (r r' : List UInt8) (acc : List ByteArray) (e : Int) (h : runS (-1) (35 :: r) = (r', e)) (he : e ≠ 0) : WR (35 :: r) acc ([], e)
  | quo (r r' : List UInt8) (acc : List ByteArray) (x : List UInt8) (R : List ByteArray × Int) (h : quotS r [] = (x, r', 0)) (k : WR r' (acc ++ [⟨x.toArray⟩]) R) : WR (34 :: r) acc R
  | quoE (r r' : List UInt8) (acc : List ByteArray) (x : List UInt8) (e : Int) (h : quotS r [] = (x, r', e)) (he : e ≠ 0) : WR (34 :: r) acc ([], e)
  | bare (c : UInt8) (r r' : List UInt8) (acc : List ByteArray) (R : List ByteArray × Int) (hm : mayB c = true) (h1 : c ≠ 32) (h2 : c ≠ 35) (h3 : c ≠ 34) (h : runS 32 (c :: r) = (r', 0)) (k : WR r' (acc ++ [⟨((c :: r).take ((c :: r).length - r'.length)).toArray⟩]) R) : WR (c :: r) acc R
  | bareE (c : UInt8) (r r' : List UInt8) (acc : List ByteArray) (e : Int) (hm : mayB c = true) (h1 : c ≠ 32) (h2 : c ≠ 35) (h3 : c ≠ 34) (h : runS 32 (c :: r) = (r', e)) (he : e ≠ 0) : WR (c :: r) acc ([], e)
theorem below_drewN {B : Nat} {w w' : World} (h : Below B w w') (n : Nat) : Below B w (w'.drewN n) := ⟨h.os, h.tape, h.output, h.size, h.block⟩
theorem runS_le (st : Int) : ∀ l, (runS st l).1.length ≤ l.length
  | [] => Nat.le_refl _
  | c :: r => by
    unfold runS
    split
    · exact Nat.le_refl _
    · split
      · exact Nat.le_refl _
      · exact Nat.le_trans (runS_le st r) (Nat.le_succ _)
theorem runS_lt {st : Int} {c : UInt8} {r : List UInt8} (hm : mayB c = true) (hc : (c.toNat : Int) ≠ st) : (runS st (c :: r)).1.length ≤ r.length := by
  unfold runS
  rw [if_neg (by simp [hm]), if_neg hc]
  exact runS_le st r
theorem quotS_le : ∀ n l acc, l.length ≤ n → (quotS l acc).2.2 = 0 → (quotS l acc).2.1.length ≤ l.length
  | _, [], acc, _, h => by simp [quotS] at h
  | 0, c :: r, _, hn, _ => by simp at hn
  | n + 1, c :: r, acc, hn, h => by
    unfold quotS at h ⊢
    split
    · exact Nat.le_refl _
    · rename_i hm
      rw [if_neg hm] at h
      split
      · rename_i h34
        rw [if_pos h34] at h
        cases r with
        | nil => exact Nat.zero_le _
        | cons d r2 =>
          simp only at h ⊢
          split
          · simp
          · split <;> simp
      · rename_i h34
        rw [if_neg h34] at h
        split
        · rename_i h92
          rw [if_pos h92] at h
          cases r with
          | nil => exact Nat.zero_le _
          | cons d r2 =>
            simp only at h ⊢
            split
            · simp
            · rename_i hd
              rw [if_neg hd] at h
              split
              · rename_i ho
                rw [if_pos ho] at h
                have := quotS_le n r2 (acc ++ [d]) (by simp at hn; omega) h
                simp; omega
              · simp
        · rename_i h92
          rw [if_neg h92] at h
          have := quotS_le n r (acc ++ [c]) (by simp at hn; omega) h
          simp; omega
/-- The words of a line. -/
def WSpec (s : ByteArray) (R : List ByteArray × Int) : Prop := if 1024 < s.size then R = ([], 1) else WR s.data.toList [] R
set_option maxRecDepth 100000 in
set_option maxHeartbeats 12800000 in
theorem words_any {w : World} {s : ByteArray} {R : List ByteArray × Int} (hs : s.size < 4294967281) (hR : WSpec s R) : Calls Tryz.prog 21 #[.string s] w fun e' w' => ∃ v, e' = .returned (.tuple #[v, .int .i64 R.2]) ∧ w'.ownsRow 0 9 1 v R.1.length (strs R.1) ∧ Lo w.heap.size v ∧ Below w.heap.size w w' := by
  unfold WSpec at hR
  by_cases hlong : 1024 < s.size
  · rw [if_pos hlong] at hR
    subst hR
    have hd : decide ((1024 : Int) < s.size) = true := decide_eq_true (by omega)
    go_enter Tryz.func21, Tryz.ntmps21
    go_wp2
    go_ret2
    exact ⟨.slice none 0 0, rfl, own_nil _ _ _, Lo.nil _, Below.refl _ _⟩
  · rw [if_neg hlong] at hR
    have hd : decide ((1024 : Int) < s.size) = false := decide_eq_false (by omega)
    have hb0 := Lib.hid (box1 w (oSc s 0 0))
    have bel0 : Below w.heap.size w (w.alloc (oSc s 0 0)) := (Below.refl _ _).alloc (Nat.le_refl _) _
    have HR := Lib.hid hR
    clear hR
    go_enter Tryz.func21, Tryz.ntmps21
    go_wp2
    go_loopw [5] (fun x5 wr => ∃ (i : Nat) (e : Int) (acc : List ByteArray), i ≤ s.size ∧ (e = 0 → acc.length ≤ i) ∧ Hid (wr.heap[w.heap.size]? = some (oSc s i e)) ∧ Hid ((e ≠ 0 → R = ([], e)) ∧ (e = 0 → WR (s.data.toList.drop i) acc R)) ∧ Hid (wr.ownsRow 0 9 1 x5 acc.length (strs acc)) ∧ Lo (w.heap.size + 1) x5 ∧ Below w.heap.size w wr) (fun x5 wr => match wr.cell? ⟨w.heap.size, 2, none⟩, wr.cell? ⟨w.heap.size, 1, none⟩ with | some v2, some v1 => if intOf v2 = 0 then s.size - (intOf v1).toNat + 1 else 0 | _, _ => 0)
    case atStart => exact ⟨0, 0, [], Nat.zero_le _, fun _ => Nat.le_refl _, hb0, Lib.hid ⟨fun h => absurd rfl h, fun _ => by simpa using HR.out⟩, Lib.hid (by simpa [strs] using own_nil _ _ _), Lo.nil _, bel0⟩
    case round =>
      obtain ⟨i, e, acc, h1, h2, hb, hw, ho, lo, bel⟩ := hrel
      obtain ⟨l, hl⟩ : ∃ l, s.data.toList.drop i = l := ⟨_, rfl⟩
      have nx := next_any hb.out h1 hl
      obtain ⟨-, q1, q2, -⟩ := sc_cells hb.out
      rw [q1, q2]
      clear q1 q2
      rw [hl] at hw
      by_cases he : e = 0
      · subst he
        have hw2 := hw.out.2 rfl
        replace h2 := h2 rfl
        clear hw
        cases hw2 with
        | nil =>
          have hq : nextS [] 0 = (0, false, 0) := rfl
          rw [hq] at nx
          go_wp2_with (go_at_call 94; refine nx.mono ?_; clear nx; rintro e' w2 ⟨rfl, hb2, fr2⟩; obtain ⟨c0, c1, c2, cf⟩ := sc_cells hb2; have f1 := cf 1; clear cf c0; have bel2 := bel.trans (fr2.belowS (fun b hb => by omega) bel.size); have ho2 := Lib.hid (own_fr ho.out fr2 (fun b hb h => by have := lo b hb; omega)))
          go_ret2
          exact ⟨_, rfl, ho2.out, lo.mono (Nat.le_succ _), bel2⟩
        | bad c r acc hm =>
          have hq : nextS (c :: r) 0 = (0, false, 81) := by unfold nextS; simp [hm]
          rw [hq] at nx
          go_wp2_with (go_at_call 94; refine nx.mono ?_; clear nx; rintro e' w2 ⟨rfl, hb2, fr2⟩; obtain ⟨c0, c1, c2, cf⟩ := sc_cells hb2; have f1 := cf 1; clear cf c0; have bel2 := bel.trans (fr2.belowS (fun b hb => by omega) bel.size); have ho2 := Lib.hid (own_fr ho.out fr2 (fun b hb h => by have := lo b hb; omega)))
          go_quiet (fail)
          go_wp2
          go_ret2
          exact ⟨.slice none 0 0, rfl, own_nil _ _ _, Lo.nil _, below_drewN bel2 _⟩
        | sp r acc R k =>
          have hq : nextS (32 :: r) 0 = (32, true, 0) := by unfold nextS; rfl
          rw [hq] at nx
          obtain ⟨hlt, -, hd2⟩ := drop_cons hl
          have hlr : r.length = s.size - i - 1 := by have := congrArg List.length hl; rw [List.length_drop, len_data] at this; (try simp at this); omega
          have hw3 : IntKind.i64.wrap ((i : Int) + 1) = ((i + 1 : Nat) : Int) := (IntWalk.i64_in _ (by omega)).trans (by omega)
          have hk := Lib.hid k
          clear k
          go_wp2_with (go_at_call 94; refine nx.mono ?_; clear nx; rintro e' w2 ⟨rfl, hb2, fr2⟩; obtain ⟨c0, c1, c2, cf⟩ := sc_cells hb2; have f1 := cf 1; clear cf c0; have bel2 := bel.trans (fr2.belowS (fun b hb => by omega) bel.size); have ho2 := Lib.hid (own_fr ho.out fr2 (fun b hb h => by have := lo b hb; omega)); have hb3 : (w2.setCell ⟨w.heap.size, 1, none⟩ (.int .i64 ((i : Int) + 1))).heap[w.heap.size]? = some (oSc s ((i + 1 : Nat) : Int) 0) := (sc_set hb2).1 _; have fr3 : Fr (fun b => b = w.heap.size) w2 (w2.setCell ⟨w.heap.size, 1, none⟩ (.int .i64 ((i : Int) + 1))) := Fr.setCell (S := fun b => b = w.heap.size) (Fr.refl _ w2) (p := ⟨w.heap.size, 1, none⟩) (.inl rfl) (.int .i64 ((i : Int) + 1)); have bel3 := bel2.trans (fr3.belowS (fun b hb => by omega) bel2.size); have ho3 := Lib.hid (own_fr ho2.out fr3 (fun b hb h => by have := lo b hb; omega)); have hb2 := Lib.hid hb2; have hb3 := Lib.hid hb3)
          refine ⟨⟨i + 1, 0, acc, by omega, fun _ => by omega, hb3, Lib.hid ⟨fun h => absurd rfl h, fun _ => by rw [hd2]; exact hk.out⟩, ho3, lo, bel3⟩, ?_⟩
          rw [(sc_cells hb3.out).2.1, (sc_cells hb3.out).2.2.1]
          simp [intOf]; omega
        | com r r' acc R h k =>
          have hq : nextS (35 :: r) 0 = (35, true, 0) := by unfold nextS; rfl
          rw [hq] at nx
          obtain ⟨hlt, -, hd2⟩ := drop_cons hl
          have hlr : r.length = s.size - i - 1 := by have := congrArg List.length hl; rw [List.length_drop, len_data] at this; (try simp at this); omega
          have hw3 : IntKind.i64.wrap ((i : Int) + 1) = ((i + 1 : Nat) : Int) := (IntWalk.i64_in _ (by omega)).trans (by omega)
          have hle := runS_lt (st := -1) (r := r) (c := 35) (by decide) (by decide)
          rw [h] at hle
          replace h := Lib.hid h
          have hk := Lib.hid k
          clear k
          go_wp2_with (first | (go_at_call 94; refine nx.mono ?_; clear nx; rintro e' w2 ⟨rfl, hb2, fr2⟩; obtain ⟨c0, c1, c2, cf⟩ := sc_cells hb2; have f1 := cf 1; clear cf c0; have bel2 := bel.trans (fr2.belowS (fun b hb => by omega) bel.size); have ho2 := Lib.hid (own_fr ho.out fr2 (fun b hb h => by have := lo b hb; omega)); have hb2 := Lib.hid hb2) | (go_at_call 95; go_loud (refine (until_any (R := (r', 0)) hb2.out hs h1 (by rw [hl]; exact h.out)).mono ?_; rintro e' w4 ⟨j, hj1, hj2, hj3, rfl, hb4, fr4⟩; have bel4 := bel2.trans (fr4.belowS (fun b hb => by omega) bel2.size); have ho4 := Lib.hid (own_fr ho2.out fr4 (fun b hb h => by have := lo b hb; omega)); have hb4 := Lib.hid hb4)))
          have hjl : r'.length = s.size - j := by have := congrArg List.length hj3; rw [List.length_drop, len_data] at this; (try simp at this); omega
          refine ⟨⟨j, 0, acc, hj2, fun _ => by omega, hb4, Lib.hid ⟨fun h => absurd rfl h, fun _ => by rw [hj3]; exact hk.out⟩, ho4, lo, bel4⟩, ?_⟩
          rw [(sc_cells hb4.out).2.1, (sc_cells hb4.out).2.2.1]
          simp [intOf]; omega
        | comE r r' acc e h he =>
          have hq : nextS (35 :: r) 0 = (35, true, 0) := by unfold nextS; rfl
          rw [hq] at nx
          obtain ⟨hlt, -, hd2⟩ := drop_cons hl
          have hlr : r.length = s.size - i - 1 := by have := congrArg List.length hl; rw [List.length_drop, len_data] at this; (try simp at this); omega
          have hw3 : IntKind.i64.wrap ((i : Int) + 1) = ((i + 1 : Nat) : Int) := (IntWalk.i64_in _ (by omega)).trans (by omega)
          have hle := runS_lt (st := -1) (r := r) (c := 35) (by decide) (by decide)
          rw [h] at hle
          replace h := Lib.hid h
          go_wp2_with (first | (go_at_call 94; refine nx.mono ?_; clear nx; rintro e' w2 ⟨rfl, hb2, fr2⟩; obtain ⟨c0, c1, c2, cf⟩ := sc_cells hb2; have f1 := cf 1; clear cf c0; have bel2 := bel.trans (fr2.belowS (fun b hb => by omega) bel.size); have ho2 := Lib.hid (own_fr ho.out fr2 (fun b hb h => by have := lo b hb; omega)); have hb2 := Lib.hid hb2) | (go_at_call 95; go_loud (refine (until_any (R := (r', e)) hb2.out hs h1 (by rw [hl]; exact h.out)).mono ?_; rintro e' w4 ⟨j, hj1, hj2, hj3, rfl, hb4, fr4⟩; have bel4 := bel2.trans (fr4.belowS (fun b hb => by omega) bel2.size); have ho4 := Lib.hid (own_fr ho2.out fr4 (fun b hb h => by have := lo b hb; omega)); have hb4 := Lib.hid hb4)))
          refine ⟨⟨j, e, acc, hj2, fun h => absurd h he, hb4, Lib.hid ⟨fun _ => rfl, fun h => absurd h he⟩, ho4, lo, bel4⟩, ?_⟩
          rw [(sc_cells hb4.out).2.1, (sc_cells hb4.out).2.2.1]
          simp [intOf, he]
        | quo r r' acc x R h k =>
          have hq : nextS (34 :: r) 0 = (34, true, 0) := by unfold nextS; rfl
          rw [hq] at nx
          obtain ⟨hlt, -, hd2⟩ := drop_cons hl
          have hlr : r.length = s.size - i - 1 := by have := congrArg List.length hl; rw [List.length_drop, len_data] at this; (try simp at this); omega
          have hw3 : IntKind.i64.wrap ((i : Int) + 1) = ((i + 1 : Nat) : Int) := (IntWalk.i64_in _ (by omega)).trans (by omega)
          have hle := quotS_le r.length r [] (Nat.le_refl _) (by rw [h])
          rw [h] at hle
          replace h := Lib.hid h
          have hk := Lib.hid k
          clear k
          go_wp2_with (first | (go_at_call 94; refine nx.mono ?_; clear nx; rintro e' w2 ⟨rfl, hb2, fr2⟩; obtain ⟨c0, c1, c2, cf⟩ := sc_cells hb2; have f1 := cf 1; clear cf c0; have bel2 := bel.trans (fr2.belowS (fun b hb => by omega) bel.size); have ho2 := Lib.hid (own_fr ho.out fr2 (fun b hb h => by have := lo b hb; omega)); have hb3 : (w2.setCell ⟨w.heap.size, 1, none⟩ (.int .i64 ((i : Int) + 1))).heap[w.heap.size]? = some (oSc s ((i + 1 : Nat) : Int) 0) := (sc_set hb2).1 _; have fr3 : Fr (fun b => b = w.heap.size) w2 (w2.setCell ⟨w.heap.size, 1, none⟩ (.int .i64 ((i : Int) + 1))) := Fr.setCell (S := fun b => b = w.heap.size) (Fr.refl _ w2) (p := ⟨w.heap.size, 1, none⟩) (.inl rfl) (.int .i64 ((i : Int) + 1)); have bel3 := bel2.trans (fr3.belowS (fun b hb => by omega) bel2.size); have ho3 := Lib.hid (own_fr ho2.out fr3 (fun b hb h => by have := lo b hb; omega)); have hb2 := Lib.hid hb2; have hb3 := Lib.hid hb3) | (go_at_call 96; go_loud (refine (quoted_any (R := (x, r', 0)) hb3.out hs (by omega) (by rw [hd2]; exact h.out)).mono ?_; rintro e' w4 ⟨x', j, rfl, hj2, hj3, hb4, fr4⟩; obtain ⟨rfl, hj4⟩ := hj3 rfl; clear hj3; replace hj4 := Lib.hid hj4; have bel4 := bel3.trans (fr4.belowS (fun b hb => by omega) bel3.size); have ho4 := Lib.hid (own_fr ho3.out fr4 (fun b hb h => by have := lo b hb; omega)); have hb4 := Lib.hid hb4)) | (at_builtin; go_loud (refine wpList_app1 rfl (.tmp 63) (.tmp 66) 23 rfl Tryz.underlying23 Tryz.info9 rfl (by decide) (by decide) [.string ⟨x.toArray⟩] rfl (by intro z hz; simp at hz; subst hz; rfl) rfl ho4.out rfl (show (acc.length + 1) * 16 ≤ 140737488355328 by omega) ?_; intro v' w6 ho6 hn6 hf6)))
          have hgl4 := lt_of_obj hb4.out
          have hb6 := Lib.hid (hf6.obj hb4.out (fun hs => by have := lo _ hs; omega))
          have lo6 : Lo (w.heap.size + 1) v' := lo.next hn6 hgl4
          have bel6 := bel4.trans (hf6.belowB (lo.mono (Nat.le_succ _)) bel4.size)
          have hj3 := hj4.out
          have hjl : r'.length = s.size - j := by have := congrArg List.length hj3; rw [List.length_drop, len_data] at this; (try simp at this); omega
          refine ⟨⟨j, 0, acc ++ [⟨x.toArray⟩], hj2, fun _ => by simp; omega, hb6, Lib.hid ⟨fun h => absurd rfl h, fun _ => by rw [hj3]; exact hk.out⟩, Lib.hid (by simpa [strs] using ho6), lo6, bel6⟩, ?_⟩
          rw [(sc_cells hb6.out).2.1, (sc_cells hb6.out).2.2.1]
          simp [intOf]; omega
        | quoE r r' acc x e h he =>
          have hq : nextS (34 :: r) 0 = (34, true, 0) := by unfold nextS; rfl
          rw [hq] at nx
          obtain ⟨hlt, -, hd2⟩ := drop_cons hl
          have hlr : r.length = s.size - i - 1 := by have := congrArg List.length hl; rw [List.length_drop, len_data] at this; (try simp at this); omega
          have hw3 : IntKind.i64.wrap ((i : Int) + 1) = ((i + 1 : Nat) : Int) := (IntWalk.i64_in _ (by omega)).trans (by omega)
          replace h := Lib.hid h
          go_wp2_with (first | (go_at_call 94; refine nx.mono ?_; clear nx; rintro e' w2 ⟨rfl, hb2, fr2⟩; obtain ⟨c0, c1, c2, cf⟩ := sc_cells hb2; have f1 := cf 1; clear cf c0; have bel2 := bel.trans (fr2.belowS (fun b hb => by omega) bel.size); have ho2 := Lib.hid (own_fr ho.out fr2 (fun b hb h => by have := lo b hb; omega)); have hb3 : (w2.setCell ⟨w.heap.size, 1, none⟩ (.int .i64 ((i : Int) + 1))).heap[w.heap.size]? = some (oSc s ((i + 1 : Nat) : Int) 0) := (sc_set hb2).1 _; have fr3 : Fr (fun b => b = w.heap.size) w2 (w2.setCell ⟨w.heap.size, 1, none⟩ (.int .i64 ((i : Int) + 1))) := Fr.setCell (S := fun b => b = w.heap.size) (Fr.refl _ w2) (p := ⟨w.heap.size, 1, none⟩) (.inl rfl) (.int .i64 ((i : Int) + 1)); have bel3 := bel2.trans (fr3.belowS (fun b hb => by omega) bel2.size); have ho3 := Lib.hid (own_fr ho2.out fr3 (fun b hb h => by have := lo b hb; omega)); have hb2 := Lib.hid hb2; have hb3 := Lib.hid hb3) | (go_at_call 96; go_loud (refine (quoted_any (R := (x, r', e)) hb3.out hs (by omega) (by rw [hd2]; exact h.out)).mono ?_; rintro e' w4 ⟨x', j, rfl, hj2, hj3, hb4, fr4⟩; clear hj3; have bel4 := bel3.trans (fr4.belowS (fun b hb => by omega) bel3.size); have ho4 := Lib.hid (own_fr ho3.out fr4 (fun b hb h => by have := lo b hb; omega)); have hb4 := Lib.hid hb4)) | (at_builtin; go_loud (refine wpList_app1 rfl (.tmp 63) (.tmp 66) 23 rfl Tryz.underlying23 Tryz.info9 rfl (by decide) (by decide) [.string x'] rfl (by intro z hz; simp at hz; subst hz; rfl) rfl ho4.out rfl (show (acc.length + 1) * 16 ≤ 140737488355328 by omega) ?_; intro v' w6 ho6 hn6 hf6)))
          have hgl4 := lt_of_obj hb4.out
          have hb6 := Lib.hid (hf6.obj hb4.out (fun hs => by have := lo _ hs; omega))
          have lo6 : Lo (w.heap.size + 1) v' := lo.next hn6 hgl4
          have bel6 := bel4.trans (hf6.belowB (lo.mono (Nat.le_succ _)) bel4.size)
          refine ⟨⟨j, e, acc ++ [x'], hj2, fun h => absurd h he, hb6, Lib.hid ⟨fun _ => rfl, fun h => absurd h he⟩, Lib.hid (by simpa [strs] using ho6), lo6, bel6⟩, ?_⟩
          rw [(sc_cells hb6.out).2.1, (sc_cells hb6.out).2.2.1]
          simp [intOf, he]
        | bare c r r' acc R hm n1 n2 n3 h k =>
          have hq : nextS (c :: r) 0 = ((c.toNat : Int), true, 0) := by unfold nextS; simp [hm]
          rw [hq] at nx
          obtain ⟨hlt, -, hd2⟩ := drop_cons hl
          have hlr : r.length = s.size - i - 1 := by have := congrArg List.length hl; rw [List.length_drop, len_data] at this; (try simp at this); omega
          have b1 : ((c.toNat : Int) == 32) = false := by have hn : c.toNat ≠ 32 := fun e => n1 (UInt8.toNat_inj.1 e); exact beq_eq_false_iff_ne.mpr (by omega)
          have b2 : ((c.toNat : Int) == 35) = false := by have hn : c.toNat ≠ 35 := fun e => n2 (UInt8.toNat_inj.1 e); exact beq_eq_false_iff_ne.mpr (by omega)
          have b3 : ((c.toNat : Int) == 34) = false := by have hn : c.toNat ≠ 34 := fun e => n3 (UInt8.toNat_inj.1 e); exact beq_eq_false_iff_ne.mpr (by omega)
          have hle := runS_lt (st := 32) (r := r) hm (fun e => n1 (UInt8.toNat_inj.1 (Int.ofNat_inj.1 e)))
          rw [h] at hle
          replace h := Lib.hid h
          clear n1 n2 n3 hm
          have hk := Lib.hid k
          clear k
          go_wp2_with (first | (go_at_call 94; refine nx.mono ?_; clear nx; rintro e' w2 ⟨rfl, hb2, fr2⟩; obtain ⟨c0, c1, c2, cf⟩ := sc_cells hb2; have f1 := cf 1; clear cf c0; have bel2 := bel.trans (fr2.belowS (fun b hb => by omega) bel.size); have ho2 := Lib.hid (own_fr ho.out fr2 (fun b hb h => by have := lo b hb; omega)); have hb2 := Lib.hid hb2) | (go_at_call 95; go_loud (refine (until_any (R := (r', 0)) hb2.out hs h1 (by rw [hl]; exact h.out)).mono ?_; rintro e' w4 ⟨j, hj1, hj2, hj3, rfl, hb4, fr4⟩; have bel4 := bel2.trans (fr4.belowS (fun b hb => by omega) bel2.size); have ho4 := Lib.hid (own_fr ho2.out fr4 (fun b hb h => by have := lo b hb; omega)); have hb4 := Lib.hid hb4)) | (at_builtin; go_loud (refine wpList_app1 rfl (.tmp 19) (.tmp 22) 23 rfl Tryz.underlying23 Tryz.info9 rfl (by decide) (by decide) [.string (s.extract i j)] rfl (by intro z hz; simp at hz; subst hz; rfl) rfl ho4.out rfl (show (acc.length + 1) * 16 ≤ 140737488355328 by omega) ?_; intro v' w6 ho6 hn6 hf6)))
          have hgl4 := lt_of_obj hb4.out
          have hb6 := Lib.hid (hf6.obj hb4.out (fun hs => by have := lo _ hs; omega))
          have lo6 : Lo (w.heap.size + 1) v' := lo.next hn6 hgl4
          have bel6 := bel4.trans (hf6.belowB (lo.mono (Nat.le_succ _)) bel4.size)
          have hjl : r'.length = s.size - j := by have := congrArg List.length hj3; rw [List.length_drop, len_data] at this; (try simp at this); omega
          have hx : s.extract i j = ⟨((c :: r).take ((c :: r).length - r'.length)).toArray⟩ := by
            apply ByteArray.ext
            apply Array.toList_inj.1
            rw [ext_list, hl]
            show _ = List.take _ _
            congr 1
            simp; omega
          refine ⟨⟨j, 0, acc ++ [s.extract i j], hj2, fun _ => by simp; omega, hb6, Lib.hid ⟨fun h => absurd rfl h, fun _ => by rw [hj3, hx]; exact hk.out⟩, Lib.hid (by simpa [strs] using ho6), lo6, bel6⟩, ?_⟩
          rw [(sc_cells hb6.out).2.1, (sc_cells hb6.out).2.2.1]
          simp [intOf]; omega
        | bareE c r r' acc e hm n1 n2 n3 h he =>
          have hq : nextS (c :: r) 0 = ((c.toNat : Int), true, 0) := by unfold nextS; simp [hm]
          rw [hq] at nx
          obtain ⟨hlt, -, hd2⟩ := drop_cons hl
          have hlr : r.length = s.size - i - 1 := by have := congrArg List.length hl; rw [List.length_drop, len_data] at this; (try simp at this); omega
          have b1 : ((c.toNat : Int) == 32) = false := by have hn : c.toNat ≠ 32 := fun e => n1 (UInt8.toNat_inj.1 e); exact beq_eq_false_iff_ne.mpr (by omega)
          have b2 : ((c.toNat : Int) == 35) = false := by have hn : c.toNat ≠ 35 := fun e => n2 (UInt8.toNat_inj.1 e); exact beq_eq_false_iff_ne.mpr (by omega)
          have b3 : ((c.toNat : Int) == 34) = false := by have hn : c.toNat ≠ 34 := fun e => n3 (UInt8.toNat_inj.1 e); exact beq_eq_false_iff_ne.mpr (by omega)
          have hle := runS_lt (st := 32) (r := r) hm (fun e => n1 (UInt8.toNat_inj.1 (Int.ofNat_inj.1 e)))
          rw [h] at hle
          replace h := Lib.hid h
          clear n1 n2 n3 hm
          go_wp2_with (first | (go_at_call 94; refine nx.mono ?_; clear nx; rintro e' w2 ⟨rfl, hb2, fr2⟩; obtain ⟨c0, c1, c2, cf⟩ := sc_cells hb2; have f1 := cf 1; clear cf c0; have bel2 := bel.trans (fr2.belowS (fun b hb => by omega) bel.size); have ho2 := Lib.hid (own_fr ho.out fr2 (fun b hb h => by have := lo b hb; omega)); have hb2 := Lib.hid hb2) | (go_at_call 95; go_loud (refine (until_any (R := (r', e)) hb2.out hs h1 (by rw [hl]; exact h.out)).mono ?_; rintro e' w4 ⟨j, hj1, hj2, hj3, rfl, hb4, fr4⟩; have bel4 := bel2.trans (fr4.belowS (fun b hb => by omega) bel2.size); have ho4 := Lib.hid (own_fr ho2.out fr4 (fun b hb h => by have := lo b hb; omega)); have hb4 := Lib.hid hb4)) | (at_builtin; go_loud (refine wpList_app1 rfl (.tmp 19) (.tmp 22) 23 rfl Tryz.underlying23 Tryz.info9 rfl (by decide) (by decide) [.string (s.extract i j)] rfl (by intro z hz; simp at hz; subst hz; rfl) rfl ho4.out rfl (show (acc.length + 1) * 16 ≤ 140737488355328 by omega) ?_; intro v' w6 ho6 hn6 hf6)))
          have hgl4 := lt_of_obj hb4.out
          have hb6 := Lib.hid (hf6.obj hb4.out (fun hs => by have := lo _ hs; omega))
          have lo6 : Lo (w.heap.size + 1) v' := lo.next hn6 hgl4
          have bel6 := bel4.trans (hf6.belowB (lo.mono (Nat.le_succ _)) bel4.size)
          refine ⟨⟨j, e, acc ++ [s.extract i j], hj2, fun h => absurd h he, hb6, Lib.hid ⟨fun _ => rfl, fun h => absurd h he⟩, Lib.hid (by simpa [strs] using ho6), lo6, bel6⟩, ?_⟩
          rw [(sc_cells hb6.out).2.1, (sc_cells hb6.out).2.2.1]
          simp [intOf, he]
      · have hq : nextS l e = (0, false, e) := by unfold nextS; rw [if_pos he]
        rw [hq] at nx
        have hne : (e != 0) = true := by simpa using he
        have hR : Hid (R = ([], e)) := Lib.hid (hw.out.1 he)
        replace he := Lib.hid he
        clear hw
        go_wp2_with (go_at_call 94; refine nx.mono ?_; clear nx; rintro e' w2 ⟨rfl, hb2, fr2⟩; obtain ⟨-, -, c2, -⟩ := sc_cells hb2; have bel2 := bel.trans (fr2.belowS (fun b hb => by omega) bel.size))
        go_quiet (fail)
        go_wp2
        go_ret2
        exact ⟨.slice none 0 0, by rw [hR.out]; rfl, by rw [hR.out]; exact own_nil _ _ _, Lo.nil _, below_drewN bel2 _⟩
end Go.Proofs.YtnljjlaececnkaaGreatDoor
/-
  Plain laws of words: comments, blanks, what was joined. No condition.
-/
namespace Go.Proofs.YtnljjlaececnkaaGreatDoor
open Go.RowKit
set_option linter.unusedVariables false
set_option linter.unusedSimpArgs false
end Go.Proofs.YtnljjlaececnkaaGreatDoor
/-
  Plain laws of lines; a line's words by running. No condition.
-/
namespace Go.Proofs.YtnljjlaececnkaaGreatDoor
open Go.RowKit
set_option linter.unusedVariables false
set_option linter.unusedSimpArgs false
/-- The words of a line, by running. -/
def wrun : Nat → List UInt8 → List (List UInt8) → Option (List (List UInt8) × Int)
  | 0, _, _ => none
  | _ + 1, [], acc => some (acc, 0)
  | n + 1, c :: r, acc =>
    if mayB c = false then some ([], 81)
    else if c = 32 then wrun n r acc
    else if c = 35 then (if (runS (-1) (c :: r)).2 = 0 then wrun n (runS (-1) (c :: r)).1 acc else some ([], (runS (-1) (c :: r)).2))
    else if c = 34 then (if (quotS r []).2.2 = 0 then wrun n (quotS r []).2.1 (acc ++ [(quotS r []).1]) else some ([], (quotS r []).2.2))
    else (if (runS 32 (c :: r)).2 = 0 then wrun n (runS 32 (c :: r)).1 (acc ++ [(c :: r).take ((c :: r).length - (runS 32 (c :: r)).1.length)]) else some ([], (runS 32 (c :: r)).2))
def mkB (l : List UInt8) : ByteArray := ⟨l.toArray⟩
theorem wrun_WR : ∀ n l acc R, wrun n l acc = some R → WR l (acc.map mkB) (R.1.map mkB, R.2)
  | 0, l, acc, R, h => by cases h
  | n + 1, [], acc, R, h => by cases h; exact .nil _
  | n + 1, c :: r, acc, R, h => by
    unfold wrun at h
    by_cases hm : mayB c = false
    · rw [if_pos hm] at h; cases h; exact .bad c r _ hm
    · rw [if_neg hm] at h
      by_cases h32 : c = 32
      · rw [if_pos h32] at h; subst h32; exact .sp r _ _ (wrun_WR n r acc R h)
      · rw [if_neg h32] at h
        by_cases h35 : c = 35
        · rw [if_pos h35] at h; subst h35
          by_cases he : (runS (-1) (35 :: r)).2 = 0
          · rw [if_pos he] at h
            exact .com r _ _ _ (Prod.ext rfl he) (wrun_WR n _ acc R h)
          · rw [if_neg he] at h; cases h
            exact .comE r _ _ _ rfl he
        · rw [if_neg h35] at h
          by_cases h34 : c = 34
          · rw [if_pos h34] at h; subst h34
            by_cases he : (quotS r []).2.2 = 0
            · rw [if_pos he] at h
              have k := wrun_WR n _ _ R h
              rw [List.map_append] at k
              exact .quo r _ _ (quotS r []).1 _ (Prod.ext rfl (Prod.ext rfl he)) k
            · rw [if_neg he] at h; cases h
              exact .quoE r _ _ (quotS r []).1 _ rfl he
          · rw [if_neg h34] at h
            have hm2 : mayB c = true := by simpa using hm
            by_cases he : (runS 32 (c :: r)).2 = 0
            · rw [if_pos he] at h
              have k := wrun_WR n _ _ R h
              rw [List.map_append] at k
              exact .bare c r _ _ _ hm2 h32 h35 h34 (Prod.ext rfl he) k
            · rw [if_neg he] at h; cases h
              exact .bareE c r _ _ _ hm2 h32 h35 h34 rfl he
theorem words_run {s : ByteArray} {R : List (List UInt8) × Int} (n : Nat) (hs : s.size ≤ 1024) (h : wrun n s.data.toList [] = some R) : WSpec s (R.1.map mkB, R.2) := by
  unfold WSpec
  rw [if_neg (by omega)]
  exact wrun_WR n _ [] R h
end Go.Proofs.YtnljjlaececnkaaGreatDoor
/-
  Lines. Condition: the held start.
-/
namespace Go.Proofs.YtnljjlaececnkaaGreatDoor
open Go.RowKit
set_option linter.unusedVariables false
set_option linter.unusedSimpArgs false
/-- The cells of lines. -/
def lcells (l : List (Nat × List ByteArray)) (vs : List Value) : List Value := ((l.zip vs).map fun p => [Value.int .i64 ((p.1.1 : Nat) : Int), p.2]).flatten
/-- Lines of the call's own. -/
structure LinesAt (W : World) (x : Value) (l : List (Nat × List ByteArray)) (vs : List Value) : Prop where
  len : vs.length = l.length
  row : W.ownsRow 0 40 2 x l.length (lcells l vs)
  each : ∀ (j : Nat) p v, l[j]? = some p → vs[j]? = some v → W.ownsRow 0 9 1 v p.2.length (strs p.2) ∧ ∀ b, v.ownBlock = some b → x.ownBlock ≠ some b
theorem LinesAt.nil (W : World) : LinesAt W (.slice none 0 0) [] [] := ⟨rfl, own_nil _ _ _, fun j p v h => by simp at h⟩
theorem LinesAt.below {W W' : World} {x : Value} {l : List (Nat × List ByteArray)} {vs : List Value} (h : LinesAt W x l vs) (b : Below W.heap.size W W') : LinesAt W' x l vs :=
  ⟨h.len, own_below h.row b (own_lt h.row), fun j p v hp hv => ⟨own_below (h.each j p v hp hv).1 b (own_lt (h.each j p v hp hv).1), (h.each j p v hp hv).2⟩⟩
end Go.Proofs.YtnljjlaececnkaaGreatDoor
/-
  The document's quoted word. No condition but the program's bound.
-/
namespace Go.Proofs.YtnljjlaececnkaaGreatDoor
open Go.RowKit
set_option linter.unusedVariables false
set_option linter.unusedSimpArgs false
end Go.Proofs.YtnljjlaececnkaaGreatDoor
/-
  Are two lists of texts alike? No condition.
-/
namespace Go.Proofs.YtnljjlaececnkaaGreatDoor
open Go.RowKit
set_option linter.unusedVariables false
set_option linter.unusedSimpArgs false
end Go.Proofs.YtnljjlaececnkaaGreatDoor
/-
  Are two lists of lines alike? No condition.
-/
namespace Go.Proofs.YtnljjlaececnkaaGreatDoor
open Go.RowKit
set_option linter.unusedVariables false
set_option linter.unusedSimpArgs false
theorem lcells_at : ∀ {l : List (Nat × List ByteArray)} {vs : List Value} {j : Nat} {p : Nat × List ByteArray} {v : Value}, l[j]? = some p → vs[j]? = some v → (lcells l vs)[j * 2]? = some (.int .i64 (p.1 : Int)) ∧ (lcells l vs)[j * 2 + 1]? = some v
  | q :: l, u :: vs, 0, p, v, h1, h2 => by cases h1; cases h2; exact ⟨rfl, rfl⟩
  | q :: l, u :: vs, j + 1, p, v, h1, h2 => by
    have ih := lcells_at (l := l) (vs := vs) (j := j) h1 h2
    have e1 : lcells (q :: l) (u :: vs) = .int .i64 (q.1 : Int) :: u :: lcells l vs := rfl
    rw [e1, Nat.succ_mul]
    exact ih
  | [], _, _, _, _, h1, _ => by simp at h1
  | _ :: _, [], _, _, _, _, h2 => by simp at h2
theorem LinesAt.cells {w : World} {A : Option Addr} {m c : Nat} {l : List (Nat × List ByteArray)} {vs : List Value} (h : LinesAt w (.slice A m c) l vs) (h0 : 0 < l.length) : ∃ k, A = some ⟨k, 0, none⟩ ∧ k < w.heap.size ∧ ∀ j p v, l[j]? = some p → vs[j]? = some v → w.cell? ⟨k, j * 2, none⟩ = some (.int .i64 (p.1 : Int)) ∧ w.cell? ⟨k, j * 2 + 1, none⟩ = some v := by
  obtain ⟨k, rfl, -, hk, hc, -⟩ := own_at h.row h0
  exact ⟨k, rfl, hk, fun j p v hp hv => ⟨hc _ _ (lcells_at hp hv).1, hc _ _ (lcells_at hp hv).2⟩⟩
end Go.Proofs.YtnljjlaececnkaaGreatDoor
/-
  Number at one text. Condition: the held start.
-/
namespace Go.Proofs.YtnljjlaececnkaaGreatDoor
open Go.RowKit
set_option linter.unusedVariables false
set_option linter.unusedSimpArgs false
end Go.Proofs.YtnljjlaececnkaaGreatDoor
/-
  Join. Condition: no more than a hundred words of the program's bound.
-/
namespace Go.Proofs.YtnljjlaececnkaaGreatDoor
open Go.RowKit
set_option linter.unusedVariables false
set_option linter.unusedSimpArgs false
/-- The words, as they are written. -/
def wds (xs : List ByteArray) : List ByteArray := xs.map fun x => ⟨(wordL x.data.toList).toArray⟩
end Go.Proofs.YtnljjlaececnkaaGreatDoor
/-
  The stage's first line: words, a quotation that does not end, a number, a line. Condition: the held start.
-/
namespace Go.Proofs.YtnljjlaececnkaaGreatDoor
open Go.RowKit
set_option linter.unusedVariables false
set_option linter.unusedSimpArgs false
end Go.Proofs.YtnljjlaececnkaaGreatDoor
/-
  Appended texts; how many words a line may have. No condition.
-/
namespace Go.Proofs.YtnljjlaececnkaaGreatDoor
open Go.RowKit
set_option linter.unusedVariables false
set_option linter.unusedSimpArgs false
end Go.Proofs.YtnljjlaececnkaaGreatDoor
/-
  Numbers. Conditions: the held start; a text is no longer than memory has room for.
-/
namespace Go.Proofs.YtnljjlaececnkaaGreatDoor
open Go.RowKit
set_option linter.unusedVariables false
set_option linter.unusedSimpArgs false
/-- A number that is at most so much. -/
def numO (s : ByteArray) (most : Int) : Option Int := match decS s 10 with
  | some v => if v ≤ most then some v else none
  | none => none
def NumR (s : ByteArray) (most : Int) : Value := .tuple #[.int .i64 ((numO s most).getD 0), .bool (numO s most).isSome]
theorem NumR_no {s : ByteArray} {most : Int} (h : numO s most = none) : NumR s most = .tuple #[.int .i64 0, .bool false] := by unfold NumR; rw [h]; rfl
theorem NumR_yes {s : ByteArray} {most v : Int} (h : numO s most = some v) : NumR s most = .tuple #[.int .i64 v, .bool true] := by unfold NumR; rw [h]; rfl
theorem numO_no {s : ByteArray} {most : Int} (h : decS s 10 = none) : numO s most = none := by unfold numO; rw [h]
set_option maxRecDepth 100000 in
set_option maxHeartbeats 3200000 in
theorem number_any {w : World} (E : Env w) (s : ByteArray) (hs : s.size ≤ 140737488351232) (most : Int) : Calls Tryz.prog 47 #[.string s, .int .i64 most] w fun e w' => e = .returned (NumR s most) ∧ Below w.heap.size w w' := by
  obtain ⟨ev1, hv1, he1⟩ := (E.go (Below.refl _ _)).1.es
  obtain ⟨ev2, hv2, he2⟩ := (E.go (Below.refl _ _)).1.er
  replace he1 := Lib.hid he1
  replace he2 := Lib.hid he2
  cases ha : Lib.atoiAll s.data.toList with
  | «syntax» =>
    have hr : decS s 10 = none := by unfold decS; rw [ha]
    rw [NumR_no (numO_no hr)]
    go_enter Tryz.func47, Tryz.ntmps47
    go_wp2_with (go_at_call 116; refine (Tryz.strconv_Atoi_syntax s (by omega) ha ev1 w hv1 he1.out).mono ?_; rintro e w' ⟨N, rfl, -, -, bel⟩)
    go_ret2
    exact ⟨rfl, bel⟩
  | range =>
    have hr : decS s 10 = none := by unfold decS; rw [ha]
    rw [NumR_no (numO_no hr)]
    go_enter Tryz.func47, Tryz.ntmps47
    go_wp2_with (go_at_call 116; refine (Tryz.strconv_Atoi_range s (by omega) ha ev2 w hv2 he2.out).mono ?_; rintro e w' ⟨N, rfl, -, -, bel⟩)
    go_ret2
    exact ⟨rfl, bel⟩
  | ok v =>
    obtain ⟨hv0, hv1⟩ := atoi_bounds ha
    have hit := fun (W : World) (h : Below w.heap.size w W) => itoa_call (w := W) (n := v) (E.go h).2 hv0 hv1
    have hd := decS_ok (most := 10) ha
    obtain ⟨c, hc⟩ : ∃ c, ((⟨(Lib.itoa v).toArray⟩ : ByteArray).toList == s.toList) = c := ⟨_, rfl⟩
    have hcB : (Lib.itoa v == s.toList) = c := by rw [← hc, ByteArray.toList_eq (⟨(Lib.itoa v).toArray⟩ : ByteArray)]
    have hc2 : Lib.itoa v = s.data.toList ↔ c = true := by rw [← hc, beq_iff_eq, ByteArray.toList_eq, ByteArray.toList_eq]
    replace hc2 := Lib.hid hc2
    by_cases hl : 10 < s.size
    · have hl1 : decide ((10 : Int) < s.size) = true := decide_eq_true (by omega)
      have hr : decS s 10 = none := by rw [hd, if_neg (fun h => by omega)]
      rw [NumR_no (numO_no hr)]
      clear hd
      go_enter Tryz.func47, Tryz.ntmps47
      go_wp2_with (go_at_call 116; refine (Tryz.strconv_Atoi_ok s (by omega) v ha w).mono ?_; rintro e w1 ⟨rfl, hw⟩; have bel : Below w.heap.size w w1 := belAtoi hw; clear hw)
      go_ret2
      exact ⟨rfl, bel⟩
    · have hl1 : decide ((10 : Int) < s.size) = false := decide_eq_false (by omega)
      by_cases hn : v < 0
      · have hn1 : decide (v < 0) = true := decide_eq_true hn
        have hr : decS s 10 = none := by rw [hd, if_neg (fun h => by omega)]
        rw [NumR_no (numO_no hr)]
        clear hd
        go_enter Tryz.func47, Tryz.ntmps47
        go_wp2_with (go_at_call 116; refine (Tryz.strconv_Atoi_ok s (by omega) v ha w).mono ?_; rintro e w1 ⟨rfl, hw⟩; have bel : Below w.heap.size w w1 := belAtoi hw; clear hw)
        go_ret2
        exact ⟨rfl, bel⟩
      · have hn1 : decide (v < 0) = false := decide_eq_false hn
        by_cases hm : most < v
        · have hm1 : decide (most < v) = true := decide_eq_true hm
          have hr : numO s most = none := by
            unfold numO; rw [hd]
            split
            · rename_i u hu
              split at hu
              · cases hu; rw [if_neg (by omega)]
              · cases hu
            · rfl
          rw [NumR_no hr]
          clear hd
          go_enter Tryz.func47, Tryz.ntmps47
          go_wp2_with (go_at_call 116; refine (Tryz.strconv_Atoi_ok s (by omega) v ha w).mono ?_; rintro e w1 ⟨rfl, hw⟩; have bel : Below w.heap.size w w1 := belAtoi hw; clear hw)
          go_ret2
          exact ⟨rfl, bel⟩
        · have hm1 : decide (most < v) = false := decide_eq_false hm
          cases c
          · have hr : decS s 10 = none := by rw [hd, if_neg (fun h => Bool.noConfusion (hc2.out.1 h.2.1))]
            rw [NumR_no (numO_no hr)]
            clear hd
            go_enter Tryz.func47, Tryz.ntmps47
            go_wp2_with (first | (go_at_call 116; refine (Tryz.strconv_Atoi_ok s (by omega) v ha w).mono ?_; rintro e w1 ⟨rfl, hw⟩; have bel : Below w.heap.size w w1 := belAtoi hw; clear hw) | (go_at_call 117; refine (hit _ bel).mono ?_; rintro e w3 ⟨rfl, bel3⟩))
            go_ret2
            exact ⟨rfl, bel.trans (bel3.mono bel.size)⟩
          · have hr : numO s most = some v := by
              unfold numO; rw [hd, if_pos ⟨by omega, hc2.out.2 rfl, by omega⟩]
              exact if_pos (by omega)
            rw [NumR_yes hr]
            clear hd
            go_enter Tryz.func47, Tryz.ntmps47
            go_wp2_with (first | (go_at_call 116; refine (Tryz.strconv_Atoi_ok s (by omega) v ha w).mono ?_; rintro e w1 ⟨rfl, hw⟩; have bel : Below w.heap.size w w1 := belAtoi hw; clear hw) | (go_at_call 117; refine (hit _ bel).mono ?_; rintro e w3 ⟨rfl, bel3⟩))
            go_ret2
            exact ⟨rfl, bel.trans (bel3.mono bel.size)⟩
end Go.Proofs.YtnljjlaececnkaaGreatDoor
/-
  Lists of texts that came in: are two alike, joined, printable; the document's word and Join. No condition but sizes.
-/
namespace Go.Proofs.YtnljjlaececnkaaGreatDoor
open Go.RowKit
set_option linter.unusedVariables false
set_option linter.unusedSimpArgs false
/-- A list of texts, wherever it lies. -/
def SRow (w : World) (v : Value) (xs : List ByteArray) : Prop := ∃ A c, v = .slice A xs.length c ∧ (0 < xs.length → ∃ k o, A = some ⟨k, o, none⟩ ∧ k < w.heap.size ∧ ∀ (j : Nat) x, xs[j]? = some x → w.cell? ⟨k, o + j, none⟩ = some (.string x))
theorem SRow.of_row {w : World} {S : Nat → Prop} {v : Value} {n : Nat} {xs : List ByteArray} (h : Row w S 1 v n (strs xs)) : SRow w v xs := by
  have hn : xs.length = n := by have := h.1; simpa [strs] using this
  subst hn
  obtain ⟨A, c, rfl, -, -⟩ := h.head
  refine ⟨A, c, rfl, fun h0 => ?_⟩
  obtain ⟨k, o, rfl, -, hk, hc⟩ := h.at_ h0
  exact ⟨k, o, rfl, hk, fun j x hx => hc j _ (by unfold strs; rw [List.getElem?_map, hx]; rfl)⟩
theorem SRow.of_own {w : World} {v : Value} {n : Nat} {xs : List ByteArray} (h : w.ownsRow 0 9 1 v n (strs xs)) : SRow w v xs := .of_row (own_old h)
theorem SRow.below {w w' : World} {v : Value} {xs : List ByteArray} (h : SRow w v xs) (b : Below w.heap.size w w') : SRow w' v xs := by
  obtain ⟨A, c, rfl, hc⟩ := h
  refine ⟨A, c, rfl, fun h0 => ?_⟩
  obtain ⟨k, o, rfl, hk, h2⟩ := hc h0
  exact ⟨k, o, rfl, Nat.lt_of_lt_of_le hk b.size, fun j x hx => (Below.cell (p := ⟨k, o + j, none⟩) b hk).trans (h2 j x hx)⟩
theorem joins_nil {w : World} {A : Option Addr} {c : Nat} : Calls Tryz.prog 45 #[.slice A 0 c] w fun e w' => e = .returned (.string ⟨#[]⟩) ∧ Below w.heap.size w w' := by
  have hjc := join_call (w := w) (v := .slice none 0 0) (xs := []) (sep := ⟨#[32]⟩) rfl (by simpa [strs] using own_nil w 9 1) (by simp) (by simp [Lib.join])
  go_enter Tryz.func45, Tryz.ntmps45
  go_wp2
  go_loopw [3, 8] (fun x3 x8 wr => x8 = .int .i64 0 ∧ x3 = .slice none 0 0 ∧ wr = w) (fun x3 x8 wr => 0)
  case atStart => exact ⟨rfl, rfl, rfl⟩
  case round =>
    obtain ⟨rfl, rfl, rfl⟩ := hrel
    go_wp2_with (go_at_call 114; refine hjc.mono ?_; rintro e w1 ⟨rfl, bel1⟩)
    go_ret
    exact ⟨rfl, bel1⟩
/-- The line of words. -/
def joinB (xs : List ByteArray) : ByteArray := ⟨(Lib.join (xs.map fun x => wordL x.data.toList) [32]).toArray⟩
theorem wds_list (xs : List ByteArray) : (wds xs).map (·.data.toList) = xs.map fun x => wordL x.data.toList := by unfold wds; rw [List.map_map]; rfl
set_option maxRecDepth 100000 in
set_option maxHeartbeats 1600000 in
theorem joins_row {w : World} {v : Value} {xs : List ByteArray} (hv : SRow w v xs) (hn : xs.length ≤ 1000) (hx : ∀ x ∈ xs, x.size < 4294967281) (hlen : (joinB xs).size ≤ 140737488355328) :
    Calls Tryz.prog 45 #[v] w fun e w' => e = .returned (.string (joinB xs)) ∧ Below w.heap.size w w' := by
  obtain ⟨A, c, rfl, hv⟩ := hv
  by_cases h0 : 0 < xs.length
  · obtain ⟨k, o, rfl, hk, hc⟩ := hv h0
    have Hx := Lib.hid hx
    have Hc := Lib.hid hc
    have Hl : Hid ((Lib.join ((wds xs).map (·.data.toList)) [32]).length ≤ 140737488355328) := Lib.hid (by rw [wds_list]; rw [← len_data] at hlen; exact hlen)
    have hres : joinB xs = ⟨(Lib.join ((wds xs).map (·.data.toList)) [32]).toArray⟩ := by rw [wds_list]; rfl
    rw [hres]
    clear hx hc hlen hv hres
    go_enter Tryz.func45, Tryz.ntmps45
    go_wp2
    go_loopw [3, 8] (fun x3 x8 wr => ∃ j : Nat, x8 = .int .i64 j ∧ j ≤ xs.length ∧ Hid (wr.ownsRow 0 9 1 x3 j (strs (wds (xs.take j)))) ∧ Lo w.heap.size x3 ∧ Below w.heap.size w wr) (fun x3 x8 wr => xs.length - (intOf x8).toNat)
    case atStart => exact ⟨0, rfl, Nat.zero_le _, Lib.hid (by simpa [strs, wds] using own_nil _ _ _), Lo.nil _, Below.refl _ _⟩
    case round =>
      obtain ⟨j, rfl, hj, ho, lo, bel⟩ := hrel
      by_cases hlt : j < xs.length
      · have hg := List.getElem?_eq_getElem hlt
        have q1 : wr.cell? ⟨k, o + j, none⟩ = some (.string xs[j]) := (Below.cell (p := ⟨k, o + j, none⟩) bel hk).trans (Hc.out j _ hg)
        have q2 := Hx.out _ (List.mem_of_getElem? hg)
        have ht : Hid (strs (wds (xs.take (j + 1))) = strs (wds (xs.take j)) ++ [.string ⟨(wordL xs[j].data.toList).toArray⟩]) := Lib.hid (by
          rw [take_snoc hg]; unfold strs wds; rw [List.map_append, List.map_append]; rfl)
        have hw := fun W => word_any (w := W) q2
        replace hg := Lib.hid hg
        go_wp2_with (first | (go_at_call 113; refine (hw _).mono ?_; rintro e w1 ⟨rfl, bel1⟩) | (at_builtin; refine wpList_app1 rfl (.tmp 12) (.tmp 15) 23 rfl Tryz.underlying23 Tryz.info9 rfl (by decide) (by decide) [.string ⟨(wordL xs[j].data.toList).toArray⟩] rfl (by intro z hz; simp at hz; subst hz; rfl) rfl (own_below ho.out bel1 (own_lt ho.out)) rfl (by omega) ?_; intro v' w2 ho2 hn2 hf2))
        have bel2 := bel.trans (bel1.mono bel.size)
        refine ⟨⟨j + 1, by congr 1, by omega, Lib.hid (by rw [ht.out]; exact ho2), lo.next hn2 bel2.size, bel2.trans (hf2.belowB lo bel2.size)⟩, by simp [intOf]; omega⟩
      · obtain rfl : j = xs.length := by omega
        have ho2 := ho.out
        rw [List.take_length] at ho2
        have hjc := join_call (xs := wds xs) (sep := ⟨#[32]⟩) (by simp [wds]) ho2 (by simp [wds]; omega) Hl.out
        go_wp2_with (go_at_call 114; refine hjc.mono ?_; rintro e w1 ⟨rfl, bel1⟩)
        go_ret
        exact ⟨rfl, bel.trans (bel1.mono bel.size)⟩
  · have h1 : xs.length = 0 := by omega
    have h2 : xs = [] := List.length_eq_zero_iff.1 h1
    subst h2
    exact joins_nil
end Go.Proofs.YtnljjlaececnkaaGreatDoor
/-
  The document's word and Join; printable. Condition: a text is no longer than memory has room for.
-/
namespace Go.Proofs.YtnljjlaececnkaaGreatDoor
open Go.RowKit
set_option linter.unusedVariables false
set_option linter.unusedSimpArgs false
end Go.Proofs.YtnljjlaececnkaaGreatDoor
/-
  Lists of texts: is a text among them; what became of lines. Conditions: the lists are of bounded length.
-/
namespace Go.Proofs.YtnljjlaececnkaaGreatDoor
open Go.RowKit
set_option linter.unusedVariables false
set_option linter.unusedSimpArgs false
theorem SRow.cells {w : World} {v : Value} {xs : List ByteArray} (h : SRow w v xs) : (xs = [] ∧ ∃ A c, v = .slice A 0 c) ∨ ∃ k o c, v = .slice (some ⟨k, o, none⟩) xs.length c ∧ k < w.heap.size ∧ ∀ j, j < xs.length → w.cell? ⟨k, o + j, none⟩ = some (.string (xs.getD j ByteArray.empty)) := by
  obtain ⟨A, c, rfl, hc⟩ := h
  by_cases h0 : 0 < xs.length
  · obtain ⟨k, o, rfl, hk, h2⟩ := hc h0
    refine .inr ⟨k, o, c, rfl, hk, fun j hj => h2 j _ ?_⟩
    rw [List.getD_eq_getElem?_getD, List.getElem?_eq_getElem hj]; rfl
  · have h1 : xs.length = 0 := by omega
    have h2 : xs = [] := List.length_eq_zero_iff.1 h1
    subst h2
    exact .inl ⟨rfl, A, c, rfl⟩
theorem contains_no {xs : List ByteArray} {s : ByteArray} : Lib.containsS xs s = false ↔ s ∉ xs := by
  rw [← Lib.containsS_iff xs s]; simp
theorem contains_row {w : World} {v : Value} {xs : List ByteArray} (h : SRow w v xs) (hn : xs.length ≤ 100000) (s : ByteArray) : Calls Tryz.prog 132 #[v, .string s] w fun e w' => e = .returned (.bool (Lib.containsS xs s)) ∧ w' = w := by
  rcases h.cells with ⟨rfl, A, c, rfl⟩ | ⟨k, o, c, rfl, -, hc⟩
  · exact (Tryz.slices_Contains_string_empty A c s w).mono fun e w' h => ⟨h.1, h.2⟩
  · have := Tryz.slices_Contains_string k o xs.length c xs s w (Nat.le_refl _) (by omega) hc
    rw [List.take_length] at this
    exact this
/-- A mark and a blank ahead of a text. -/
def markB (c : UInt8) (s : ByteArray) : ByteArray := ⟨#[c, 32]⟩ ++ s
/-- What is gone, and what has come. -/
def goneL (was is : List ByteArray) : List ByteArray := (was.filter fun s => !Lib.containsS is s).map (markB 45)
def comeL (was is : List ByteArray) : List ByteArray := (is.filter fun s => !Lib.containsS was s).map (markB 43)
def chgL (was is : List ByteArray) : List ByteArray := goneL was is ++ comeL was is
theorem filt_yes {xs ys : List ByteArray} {c : UInt8} {j : Nat} {x : ByteArray} (hx : xs[j]? = some x) (h : Lib.containsS ys x = false) : ((xs.take (j + 1)).filter fun s => !Lib.containsS ys s).map (markB c) = ((xs.take j).filter fun s => !Lib.containsS ys s).map (markB c) ++ [markB c x] := by
  rw [take_snoc hx, List.filter_append, List.map_append]
  congr 1
  simp [h]
theorem filt_no {xs ys : List ByteArray} {c : UInt8} {j : Nat} {x : ByteArray} (hx : xs[j]? = some x) (h : Lib.containsS ys x = true) : ((xs.take (j + 1)).filter fun s => !Lib.containsS ys s).map (markB c) = ((xs.take j).filter fun s => !Lib.containsS ys s).map (markB c) := by
  rw [take_snoc hx, List.filter_append, List.map_append]
  simp [h]
theorem filt_len {xs ys : List ByteArray} {c : UInt8} : ((xs.filter fun s => !Lib.containsS ys s).map (markB c)).length ≤ xs.length := by
  rw [List.length_map]; exact List.length_filter_le _ _
theorem mem_chg {was is : List ByteArray} {x : ByteArray} (h : x ∈ chgL was is) : (∃ s, x = markB 45 s ∧ s ∈ was ∧ s ∉ is) ∨ ∃ s, x = markB 43 s ∧ s ∈ is ∧ s ∉ was := by
  unfold chgL goneL comeL at h
  rcases List.mem_append.1 h with h | h
  · obtain ⟨s, hs, rfl⟩ := List.mem_map.1 h
    have := List.mem_filter.1 hs
    exact .inl ⟨s, rfl, this.1, contains_no.1 (by simpa using this.2)⟩
  · obtain ⟨s, hs, rfl⟩ := List.mem_map.1 h
    have := List.mem_filter.1 hs
    exact .inr ⟨s, rfl, this.1, contains_no.1 (by simpa using this.2)⟩
theorem come_mem {was is : List ByteArray} {x : ByteArray} (h : x ∈ is) (hn : x ∉ was) : markB 43 x ∈ chgL was is := by
  unfold chgL comeL
  exact List.mem_append_right _ (List.mem_map.2 ⟨x, List.mem_filter.2 ⟨h, by simpa using contains_no.2 hn⟩, rfl⟩)
end Go.Proofs.YtnljjlaececnkaaGreatDoor
/-
  What became of lines: the program's and the document's. Conditions: the lists are of bounded length.
-/
namespace Go.Proofs.YtnljjlaececnkaaGreatDoor
open Go.RowKit
set_option linter.unusedVariables false
set_option linter.unusedSimpArgs false
set_option maxRecDepth 100000 in
set_option maxHeartbeats 1600000 in
theorem there_row {w : World} {v : Value} {xs : List ByteArray} (h : SRow w v xs) (hn : xs.length ≤ 100000) (s : ByteArray) : Calls Tryz.prog 79 #[v, .string s] w fun e w' => e = .returned (.bool (Lib.containsS xs s)) ∧ w' = w := by
  obtain ⟨A, c, rfl, hc⟩ := h
  have H := Lib.hid hc
  clear hc
  go_enter Tryz.func79, Tryz.ntmps79
  go_wp2
  go_loopw [5] (fun x5 wr => ∃ j : Nat, j ≤ xs.length ∧ x5 = .int .i64 j ∧ Hid (s ∉ xs.take j) ∧ wr = w) (fun x5 _ => xs.length - (intOf x5).toNat)
  case atStart => exact ⟨0, Nat.zero_le _, rfl, Lib.hid (by simp), rfl⟩
  case round =>
    obtain ⟨j, hj, rfl, hnm, rfl⟩ := hrel
    by_cases hlt : j < xs.length
    · obtain ⟨k, o, rfl, hk, hc⟩ := H.out (by omega)
      have hx := List.getElem?_eq_getElem hlt
      have q1 := hc j _ hx
      obtain ⟨y, hy⟩ : ∃ y, xs[j] = y := ⟨_, rfl⟩
      rw [hy] at q1 hx
      have hs : Hid (xs.take (j + 1) = xs.take j ++ [y]) := Lib.hid (take_snoc hx)
      have hm : Hid (y ∈ xs) := Lib.hid (List.mem_of_getElem? hx)
      clear hc hx hy
      by_cases ke : y = s
      · subst ke
        have hd : Hid (Lib.containsS xs y = true) := Lib.hid ((Lib.containsS_iff xs y).2 hm.out)
        go_wp2
        go_ret
        exact ⟨by rw [hd.out]; rfl, rfl⟩
      · have keb : (y.toList == s.toList) = false := by rw [beq_eq_false_iff_ne]; intro e; exact ke (ba_eq (by rw [← ByteArray.toList_eq, e, ByteArray.toList_eq]))
        replace ke := Lib.hid ke
        go_wp2
        refine ⟨⟨j + 1, by omega, by congr 1, Lib.hid (by rw [hs.out]; intro hm; rcases List.mem_append.1 hm with hm | hm; exact hnm.out hm; exact ke.out (List.mem_singleton.1 hm).symm), by first | rfl | trivial⟩, by simp [intOf]; omega⟩
    · obtain rfl : j = xs.length := by omega
      have hd : Hid (Lib.containsS xs s = false) := Lib.hid (contains_no.2 (by have := hnm.out; rwa [List.take_length] at this))
      go_wp2
      go_ret
      exact ⟨by rw [hd.out]; rfl, rfl⟩
/-- A list of texts of the call's own. -/
def OwnTexts (w : World) (xs : List ByteArray) (e : Ending) (w' : World) : Prop := ∃ x, e = .returned x ∧ w'.ownsRow 0 9 1 x xs.length (strs xs) ∧ Lo w.heap.size x ∧ Below w.heap.size w w'
theorem strs_snoc (xs : List ByteArray) (x : ByteArray) : strs (xs ++ [x]) = strs xs ++ [.string x] := by unfold strs; rw [List.map_append]; rfl
set_option maxRecDepth 100000 in
set_option maxHeartbeats 3200000 in
theorem changes_any {w : World} {v u : Value} {was is : List ByteArray} (hv : SRow w v was) (hu : SRow w u is) (hn : was.length ≤ 100) (hm : is.length ≤ 100) (hwz : ∀ x ∈ was, x.size ≤ 140737488355328) (hiz : ∀ x ∈ is, x.size ≤ 140737488355328) : Calls Tryz.prog 75 #[v, u] w (OwnTexts w (chgL was is)) := by
  have hct : Hid (∀ W, Below w.heap.size w W → ∀ s, Calls Tryz.prog 132 #[u, .string s] W fun e w' => e = .returned (.bool (Lib.containsS is s)) ∧ w' = W) := Lib.hid fun W hb s => contains_row (hu.below hb) (by omega) s
  have hcs : Hid (∀ W, Below w.heap.size w W → ∀ s, Calls Tryz.prog 132 #[v, .string s] W fun e w' => e = .returned (.bool (Lib.containsS was s)) ∧ w' = W) := Lib.hid fun W hb s => contains_row (hv.below hb) (by omega) s
  obtain ⟨A, c, rfl, hv⟩ := hv
  obtain ⟨B, d, rfl, hu⟩ := hu
  have Hv := Lib.hid hv
  have Hu := Lib.hid hu
  replace hwz := Lib.hid hwz
  replace hiz := Lib.hid hiz
  clear hv hu
  go_enter Tryz.func75, Tryz.ntmps75
  go_wp2
  go_loopw [4, 11] (fun x4 x11 wr => ∃ j : Nat, x11 = .int .i64 j ∧ j ≤ was.length ∧ Hid (wr.ownsRow 0 9 1 x4 (goneL (was.take j) is).length (strs (goneL (was.take j) is))) ∧ Lo w.heap.size x4 ∧ Below w.heap.size w wr) (fun x4 x11 wr => was.length - (intOf x11).toNat)
  case atStart => exact ⟨0, rfl, Nat.zero_le _, Lib.hid (by simpa [strs, goneL] using own_nil _ _ _), Lo.nil _, Below.refl _ _⟩
  case round =>
    obtain ⟨j, rfl, hj, ho, lo, bel⟩ := hrel
    by_cases hlt : j < was.length
    · obtain ⟨k, o, rfl, hk, hc⟩ := Hv.out (by omega)
      have hx := List.getElem?_eq_getElem hlt
      have q1 : wr.cell? ⟨k, o + j, none⟩ = some (.string was[j]) := (Below.cell (p := ⟨k, o + j, none⟩) bel hk).trans (hc j _ hx)
      obtain ⟨y, hy⟩ : ∃ y, was[j] = y := ⟨_, rfl⟩
      rw [hy] at q1 hx
      have hys := hwz.out y (List.mem_of_getElem? hx)
      have hl : Hid ((goneL (was.take j) is).length ≤ 100) := Lib.hid (Nat.le_trans filt_len (Nat.le_trans (List.length_take_le _ _) (by omega)))
      cases hb : Lib.containsS is y with
      | true =>
        have ht : Hid (goneL (was.take (j + 1)) is = goneL (was.take j) is) := Lib.hid (filt_no hx hb)
        have hcc : ∀ W, Below w.heap.size w W → Calls Tryz.prog 132 #[.slice B is.length d, .string y] W fun e w' => e = .returned (.bool true) ∧ w' = W := fun W h => by have := hct.out W h y; rwa [hb] at this
        replace hcc := Lib.hid hcc
        clear hc hx hy hb
        go_wp2_with (go_at_call 132; refine (hcc.out _ bel).mono ?_; rintro e w1 ⟨rfl, hw⟩; replace hw := hw.symm; subst hw)
        refine ⟨⟨j + 1, by congr 1, by omega, Lib.hid (by rw [ht.out]; exact ho.out), lo, bel⟩, by simp [intOf]; omega⟩
      | false =>
        have ht : Hid (goneL (was.take (j + 1)) is = goneL (was.take j) is ++ [markB 45 y]) := Lib.hid (filt_yes hx hb)
        have hcc : ∀ W, Below w.heap.size w W → Calls Tryz.prog 132 #[.slice B is.length d, .string y] W fun e w' => e = .returned (.bool false) ∧ w' = W := fun W h => by have := hct.out W h y; rwa [hb] at this
        replace hcc := Lib.hid hcc
        have hlq : (goneL (was.take j) is).length ≤ 100 := hl.out
        obtain ⟨G, hG⟩ : ∃ G, goneL (was.take j) is = G := ⟨_, rfl⟩
        rw [hG] at ho ht hlq hl
        replace hlq := Lib.hid hlq
        obtain ⟨n, hgn⟩ : ∃ n, G.length = n := ⟨_, rfl⟩
        rw [hgn] at ho hlq hl
        have hl16 : Hid ((n + 1) * 16 ≤ 140737488355328) := Lib.hid (by have := hl.out; omega)
        replace hgn := Lib.hid hgn
        replace hG := Lib.hid hG
        clear hc hx hy hb
        go_wp2_with (first | (go_at_call 132; refine (hcc.out _ bel).mono ?_; rintro e w1 ⟨rfl, hw⟩; replace hw := hw.symm; subst hw) | (at_builtin; refine wpList_app1 (w := wr) (n := n) rfl (.tmp 19) (.tmp 22) 23 rfl Tryz.underlying23 Tryz.info9 rfl (by decide) (by decide) [.string ((⟨#[45, 32]⟩ : ByteArray) ++ y)] rfl (by intro z hz; simp at hz; subst hz; rfl) rfl ho.out rfl hl16.out ?_; intro v' w2 ho2 hn2 hf2))
        refine ⟨⟨j + 1, by congr 1, by omega, Lib.hid (by rw [ht.out, strs_snoc, List.length_append, hgn.out]; exact ho2), lo.next hn2 bel.size, bel.trans (hf2.belowB lo bel.size)⟩, by simp [intOf]; omega⟩
    · obtain rfl : j = was.length := by omega
      rw [List.take_length] at ho
      have hl : Hid ((goneL was is).length ≤ 100) := Lib.hid (Nat.le_trans filt_len (by omega))
      obtain ⟨G, hG⟩ : ∃ G, goneL was is = G := ⟨_, rfl⟩
      rw [hG] at ho hl
      have hfin : Hid (∀ C, C = comeL was is → chgL was is = G ++ C) := Lib.hid fun C hC => by rw [hC, ← hG]; rfl
      clear hG
      go_wp2
      obtain ⟨wo, rfl⟩ : ∃ wo : World, wo = wr := ⟨_, rfl⟩
      go_loopw [4, 27] (fun x4 x27 wr => ∃ j : Nat, x27 = .int .i64 j ∧ j ≤ is.length ∧ Hid (wr.ownsRow 0 9 1 x4 (G ++ comeL was (is.take j)).length (strs (G ++ comeL was (is.take j)))) ∧ Lo w.heap.size x4 ∧ Below w.heap.size w wr) (fun x4 x27 wr => is.length - (intOf x27).toNat)
      case atStart => exact ⟨0, rfl, Nat.zero_le _, Lib.hid (by simpa [comeL] using ho.out), lo, bel⟩
      case round =>
        obtain ⟨j, rfl, hj, ho, lo, bel⟩ := hrel
        by_cases hlt : j < is.length
        · obtain ⟨k, o, rfl, hk, hc⟩ := Hu.out (by omega)
          have hx := List.getElem?_eq_getElem hlt
          have q1 : wr.cell? ⟨k, o + j, none⟩ = some (.string is[j]) := (Below.cell (p := ⟨k, o + j, none⟩) bel hk).trans (hc j _ hx)
          obtain ⟨y, hy⟩ : ∃ y, is[j] = y := ⟨_, rfl⟩
          rw [hy] at q1 hx
          have hys := hiz.out y (List.mem_of_getElem? hx)
          have hl2 : Hid ((G ++ comeL was (is.take j)).length ≤ 200) := Lib.hid (by rw [List.length_append]; have h1 := hl.out; have h2 : (comeL was (is.take j)).length ≤ 100 := Nat.le_trans filt_len (Nat.le_trans (List.length_take_le _ _) (by omega)); omega)
          cases hb : Lib.containsS was y with
          | true =>
            have ht : Hid (comeL was (is.take (j + 1)) = comeL was (is.take j)) := Lib.hid (filt_no hx hb)
            have hcc : ∀ W, Below w.heap.size w W → Calls Tryz.prog 132 #[.slice A was.length c, .string y] W fun e w' => e = .returned (.bool true) ∧ w' = W := fun W h => by have := hcs.out W h y; rwa [hb] at this
            replace hcc := Lib.hid hcc
            clear hc hx hy hb
            go_wp2_with (go_at_call 132; refine (hcc.out _ bel).mono ?_; rintro e w1 ⟨rfl, hw⟩; replace hw := hw.symm; subst hw)
            refine ⟨⟨j + 1, by congr 1, by omega, Lib.hid (by rw [ht.out]; exact ho.out), lo, bel⟩, by simp [intOf]; omega⟩
          | false =>
            have ht : Hid (comeL was (is.take (j + 1)) = comeL was (is.take j) ++ [markB 43 y]) := Lib.hid (filt_yes hx hb)
            have hcc : ∀ W, Below w.heap.size w W → Calls Tryz.prog 132 #[.slice A was.length c, .string y] W fun e w' => e = .returned (.bool false) ∧ w' = W := fun W h => by have := hcs.out W h y; rwa [hb] at this
            replace hcc := Lib.hid hcc
            obtain ⟨n, hgn⟩ : ∃ n, (G ++ comeL was (is.take j)).length = n := ⟨_, rfl⟩
            rw [hgn] at ho hl2
            have hl16 : Hid ((n + 1) * 16 ≤ 140737488355328) := Lib.hid (by have := hl2.out; omega)
            replace hgn := Lib.hid hgn
            clear hc hx hy hb
            go_wp2_with (first | (go_at_call 132; refine (hcc.out _ bel).mono ?_; rintro e w1 ⟨rfl, hw⟩; replace hw := hw.symm; subst hw) | (at_builtin; refine wpList_app1 (w := wr) (n := n) rfl (.tmp 35) (.tmp 38) 23 rfl Tryz.underlying23 Tryz.info9 rfl (by decide) (by decide) [.string ((⟨#[43, 32]⟩ : ByteArray) ++ y)] rfl (by intro z hz; simp at hz; subst hz; rfl) rfl ho.out rfl hl16.out ?_; intro v' w2 ho2 hn2 hf2))
            refine ⟨⟨j + 1, by congr 1, by omega, Lib.hid (by rw [ht.out, ← List.append_assoc, strs_snoc, List.length_append, hgn.out]; exact ho2), lo.next hn2 bel.size, bel.trans (hf2.belowB lo bel.size)⟩, by simp [intOf]; omega⟩
        · obtain rfl : j = is.length := by omega
          rw [List.take_length] at ho
          rw [← hfin.out _ rfl] at ho
          go_wp2
          go_ret
          exact ⟨_, rfl, ho.out, lo, bel⟩
end Go.Proofs.YtnljjlaececnkaaGreatDoor
/-
  What became of lines: the parts of a line that is told as gone or come. No condition.
-/
namespace Go.Proofs.YtnljjlaececnkaaGreatDoor
open Go.RowKit
set_option linter.unusedVariables false
set_option linter.unusedSimpArgs false
theorem markB_data (c : UInt8) (s : ByteArray) : (markB c s).data.toList = c :: 32 :: s.data.toList := by
  unfold markB; rw [ByteArray.data_append, Array.toList_append]; rfl
theorem markB_size (c : UInt8) (s : ByteArray) : (markB c s).size = s.size + 2 := by
  rw [← len_data, markB_data, ← len_data]; rfl
theorem markB_rest (c : UInt8) (s : ByteArray) : (markB c s).extract 2 (markB c s).size = s := by
  apply ba_eq
  rw [ByteArray.data_extract, Array.toList_extract, List.extract_eq_take_drop, markB_data, markB_size]
  simp only [List.drop_succ_cons, List.drop_zero, Nat.add_sub_cancel]
  exact List.take_of_length_le (by rw [len_data]; omega)
theorem markB_head (c : UInt8) (s : ByteArray) : (markB c s).extract 0 2 = ⟨#[c, 32]⟩ := by
  apply ba_eq
  rw [ByteArray.data_extract, Array.toList_extract, List.extract_eq_take_drop, markB_data]
  rfl
/-- What a line that is told says. -/
inductive Told (was is : List ByteArray) (x : ByteArray) : Prop where
  | gone (s : ByteArray) (e : x = markB 45 s) (a : Lib.containsS was s = true) (b : Lib.containsS is s = false)
  | come (s : ByteArray) (e : x = markB 43 s) (a : Lib.containsS was s = false) (b : Lib.containsS is s = true)
theorem told_of {was is : List ByteArray} {x : ByteArray} (h : x ∈ chgL was is) : Told was is x := by
  rcases mem_chg h with ⟨s, e, h1, h2⟩ | ⟨s, e, h1, h2⟩
  · exact .gone s e ((Lib.containsS_iff was s).2 h1) (contains_no.2 h2)
  · exact .come s e (contains_no.2 h2) ((Lib.containsS_iff is s).2 h1)
theorem come_told {was is : List ByteArray} {x : ByteArray} (h : x ∈ is) (hn : Lib.containsS was x = false) : Lib.containsS (chgL was is) (markB 43 x) = true :=
  (Lib.containsS_iff _ _).2 (come_mem h (contains_no.1 hn))
end Go.Proofs.YtnljjlaececnkaaGreatDoor
/-
  Renaming of values: the blocks of a symbolic world lie somewhere. No condition.
-/
namespace Go.Rn
set_option linter.unusedVariables false
/-- Where the blocks of a symbolic world lie; what the open capacities are. -/
structure Ren where
  blk : Nat → Nat
  cap : Nat → Nat
/-- A capacity from here on is open: that of the row of the number above. -/
def capB : Nat := 4611686018427387904
def Ren.capOf (r : Ren) (c : Nat) : Nat := if c < capB then c else r.cap ((c - capB) / 65536) - (c - capB) % 65536
/-- An address with a spot is the start of what is empty at the end of an open row. -/
def Ren.addr (r : Ren) (a : Addr) : Addr := match a.spot with
  | none => ⟨r.blk a.block, a.off, none⟩
  | some s => ⟨r.blk a.block, if r.cap a.block - a.off / (s % 1048576) = s / 1048576 then a.off else a.off + s / 1048576 * (s % 1048576), none⟩
theorem Ren.addr_none (r : Ren) (b o : Nat) : r.addr ⟨b, o, none⟩ = ⟨r.blk b, o, none⟩ := rfl
mutual
def ren (r : Ren) : Value → Value
  | .pointer (some a) => .pointer (some (r.addr a))
  | .slice (some a) n c => .slice (some (r.addr a)) n (r.capOf c)
  | .map (some k) => .map (some (r.blk k))
  | .func fn first captured => .func fn (renA r first) (renA r captured)
  | .iface t v => .iface t (ren r v)
  | .agg cs => .agg (renA r cs)
  | .tuple vs => .tuple (renA r vs)
  | .bool b => .bool b
  | .int k n => .int k n
  | .float k n => .float k n
  | .complex k x y => .complex k x y
  | .string s => .string s
  | .pointer none => .pointer none
  | .slice none n c => .slice none n c
  | .map none => .map none
  | .chan c => .chan c
  | .nilFunc => .nilFunc
  | .nilIface => .nilIface
def renA (r : Ren) : Array Value → Array Value
  | ⟨l⟩ => ⟨renL r l⟩
def renL (r : Ren) : List Value → List Value
  | [] => []
  | v :: l => ren r v :: renL r l
end
theorem renL_map (r : Ren) : ∀ l, renL r l = l.map (ren r)
  | [] => by simp [renL]
  | v :: l => by simp [renL, renL_map r l]
theorem renA_map (r : Ren) (a : Array Value) : renA r a = a.map (ren r) := by
  obtain ⟨l⟩ := a
  simp [renA, renL_map]
mutual
def Lt (n : Nat) : Value → Prop
  | .pointer (some a) => a.block < n
  | .slice (some a) _ c => a.block < n ∧ (capB ≤ c → (c - capB) / 65536 < n)
  | .map (some k) => k < n
  | .func fn first captured => LtA n first ∧ LtA n captured
  | .iface t v => Lt n v
  | .agg cs => LtA n cs
  | .tuple vs => LtA n vs
  | .bool b => True
  | .int k m => True
  | .float k m => True
  | .complex k x y => True
  | .string s => True
  | .pointer none => True
  | .slice none _ c => True
  | .map none => True
  | .chan c => True
  | .nilFunc => True
  | .nilIface => True
def LtA (n : Nat) : Array Value → Prop
  | ⟨l⟩ => LtL n l
def LtL (n : Nat) : List Value → Prop
  | [] => True
  | v :: l => Lt n v ∧ LtL n l
end
theorem LtL_iff (n : Nat) : ∀ l, LtL n l ↔ ∀ v ∈ l, Lt n v
  | [] => by simp [LtL]
  | v :: l => by simp [LtL, LtL_iff n l]
theorem LtA_iff (n : Nat) (a : Array Value) : LtA n a ↔ ∀ v ∈ a.toList, Lt n v := by
  obtain ⟨l⟩ := a
  simp [LtA, LtL_iff]
mutual
theorem Lt.mono {n m : Nat} (h : n ≤ m) : ∀ {v : Value}, Lt n v → Lt m v
  | .pointer (some a), hv => Nat.lt_of_lt_of_le (by simpa [Lt] using hv) h
  | .slice (some a) _ c, hv => by
    simp only [Lt] at hv ⊢
    exact ⟨Nat.lt_of_lt_of_le hv.1 h, fun hc => Nat.lt_of_lt_of_le (hv.2 hc) h⟩
  | .map (some k), hv => Nat.lt_of_lt_of_le (by simpa [Lt] using hv) h
  | .func fn first captured, hv => by
    simp only [Lt] at hv ⊢
    exact ⟨LtA.mono h hv.1, LtA.mono h hv.2⟩
  | .iface t v, hv => by
    simp only [Lt] at hv ⊢
    exact Lt.mono h hv
  | .agg cs, hv => by
    simp only [Lt] at hv ⊢
    exact LtA.mono h hv
  | .tuple vs, hv => by
    simp only [Lt] at hv ⊢
    exact LtA.mono h hv
  | .bool b, _ | .int _ _, _ | .float _ _, _ | .complex _ _ _, _ | .string _, _ | .pointer none, _ | .slice none _ _, _ | .map none, _ | .chan _, _ | .nilFunc, _ | .nilIface, _ => by simp [Lt]
theorem LtA.mono {n m : Nat} (h : n ≤ m) : ∀ {a : Array Value}, LtA n a → LtA m a
  | ⟨l⟩, hv => by
    simp only [LtA] at hv ⊢
    exact LtL.mono h hv
theorem LtL.mono {n m : Nat} (h : n ≤ m) : ∀ {l : List Value}, LtL n l → LtL m l
  | [], _ => by simp [LtL]
  | v :: l, hv => by
    simp only [LtL] at hv ⊢
    exact ⟨Lt.mono h hv.1, LtL.mono h hv.2⟩
end
/-- Two renamings that agree below n. -/
def Agree (n : Nat) (r r' : Ren) : Prop := ∀ i, i < n → r.blk i = r'.blk i ∧ r.cap i = r'.cap i
theorem Agree.refl (n : Nat) (r : Ren) : Agree n r r := fun _ _ => ⟨rfl, rfl⟩
theorem Agree.trans {n m : Nat} {r s t : Ren} (h : Agree n r s) (hnm : n ≤ m) (k : Agree m s t) : Agree n r t := fun i hi =>
  ⟨(h i hi).1.trans (k i (Nat.lt_of_lt_of_le hi hnm)).1, (h i hi).2.trans (k i (Nat.lt_of_lt_of_le hi hnm)).2⟩
theorem addr_same {n : Nat} {r r' : Ren} (h : Agree n r r') {a : Addr} (ha : a.block < n) : r.addr a = r'.addr a := by
  unfold Ren.addr
  split
  · rw [(h _ ha).1]
  · rw [(h _ ha).1, (h _ ha).2]
mutual
theorem Lt.same {n : Nat} {r r' : Ren} (h : Agree n r r') : ∀ {v : Value}, Lt n v → ren r v = ren r' v
  | .pointer (some a), hv => by
    simp only [Lt] at hv
    simp only [ren, addr_same h hv]
  | .slice (some a) _ c, hv => by
    simp only [Lt] at hv
    have e : r.capOf c = r'.capOf c := by
      unfold Ren.capOf
      split
      · rfl
      · rename_i hc
        rw [(h _ (hv.2 (Nat.le_of_not_lt hc))).2]
    simp only [ren, addr_same h hv.1, e]
  | .map (some k), hv => by
    simp only [Lt] at hv
    simp [ren, (h _ hv).1]
  | .func fn first captured, hv => by
    simp only [Lt] at hv
    simp [ren, LtA.same h hv.1, LtA.same h hv.2]
  | .iface t v, hv => by
    simp only [Lt] at hv
    simp [ren, Lt.same h hv]
  | .agg cs, hv => by
    simp only [Lt] at hv
    simp [ren, LtA.same h hv]
  | .tuple vs, hv => by
    simp only [Lt] at hv
    simp [ren, LtA.same h hv]
  | .bool b, _ | .int _ _, _ | .float _ _, _ | .complex _ _ _, _ | .string _, _ | .pointer none, _ | .slice none _ _, _ | .map none, _ | .chan _, _ | .nilFunc, _ | .nilIface, _ => by simp [ren]
theorem LtA.same {n : Nat} {r r' : Ren} (h : Agree n r r') : ∀ {a : Array Value}, LtA n a → renA r a = renA r' a
  | ⟨l⟩, hv => by
    simp only [LtA] at hv
    simp [renA, LtL.same h hv]
theorem LtL.same {n : Nat} {r r' : Ren} (h : Agree n r r') : ∀ {l : List Value}, LtL n l → renL r l = renL r' l
  | [], _ => by simp [renL]
  | v :: l, hv => by
    simp only [LtL] at hv
    simp [renL, Lt.same h hv.1, LtL.same h hv.2]
end
mutual
def bare : Value → Bool
  | .pointer none => true
  | .pointer (some _) => false
  | .slice none _ _ => true
  | .slice (some _) _ _ => false
  | .map none => true
  | .map (some _) => false
  | .func fn first captured => bareA first && bareA captured
  | .iface t v => bare v
  | .agg cs => bareA cs
  | .tuple vs => bareA vs
  | .bool _ => true
  | .int _ _ => true
  | .float _ _ => true
  | .complex _ _ _ => true
  | .string _ => true
  | .chan _ => true
  | .nilFunc => true
  | .nilIface => true
def bareA : Array Value → Bool
  | ⟨l⟩ => bareL l
def bareL : List Value → Bool
  | [] => true
  | v :: l => bare v && bareL l
end
mutual
theorem bare_lt {n : Nat} : ∀ {v : Value}, bare v = true → Lt n v
  | .pointer (some a), h | .slice (some a) _ _, h | .map (some a), h => by simp [bare] at h
  | .func fn first captured, h => by
    simp only [bare, Bool.and_eq_true] at h
    simp only [Lt]
    exact ⟨bareA_lt h.1, bareA_lt h.2⟩
  | .iface t v, h => by
    simp only [bare] at h
    simp only [Lt]
    exact bare_lt h
  | .agg cs, h => by
    simp only [bare] at h
    simp only [Lt]
    exact bareA_lt h
  | .tuple vs, h => by
    simp only [bare] at h
    simp only [Lt]
    exact bareA_lt h
  | .bool b, _ | .int _ _, _ | .float _ _, _ | .complex _ _ _, _ | .string _, _ | .pointer none, _ | .slice none _ _, _ | .map none, _ | .chan _, _ | .nilFunc, _ | .nilIface, _ => by simp [Lt]
theorem bareA_lt {n : Nat} : ∀ {a : Array Value}, bareA a = true → LtA n a
  | ⟨l⟩, h => by
    simp only [bareA] at h
    simp only [LtA]
    exact bareL_lt h
theorem bareL_lt {n : Nat} : ∀ {l : List Value}, bareL l = true → LtL n l
  | [], _ => by simp [LtL]
  | v :: l, h => by
    simp only [bareL, Bool.and_eq_true] at h
    simp only [LtL]
    exact ⟨bare_lt h.1, bareL_lt h.2⟩
end
mutual
theorem bare_ren {r : Ren} : ∀ {v : Value}, bare v = true → ren r v = v
  | .pointer (some a), h | .slice (some a) _ _, h | .map (some a), h => by simp [bare] at h
  | .func fn first captured, h => by
    simp only [bare, Bool.and_eq_true] at h
    simp [ren, bareA_ren h.1, bareA_ren h.2]
  | .iface t v, h => by
    simp only [bare] at h
    simp [ren, bare_ren h]
  | .agg cs, h => by
    simp only [bare] at h
    simp [ren, bareA_ren h]
  | .tuple vs, h => by
    simp only [bare] at h
    simp [ren, bareA_ren h]
  | .bool b, _ | .int _ _, _ | .float _ _, _ | .complex _ _ _, _ | .string _, _ | .pointer none, _ | .slice none _ _, _ | .map none, _ | .chan _, _ | .nilFunc, _ | .nilIface, _ => by simp [ren]
theorem bareA_ren {r : Ren} : ∀ {a : Array Value}, bareA a = true → renA r a = a
  | ⟨l⟩, h => by
    simp only [bareA] at h
    simp [renA, bareL_ren h]
theorem bareL_ren {r : Ren} : ∀ {l : List Value}, bareL l = true → renL r l = l
  | [], _ => by simp [renL]
  | v :: l, h => by
    simp only [bareL, Bool.and_eq_true] at h
    simp [renL, bare_ren h.1, bareL_ren h.2]
end
theorem ren_cells (r : Ren) (v : Value) : (ren r v).cells = v.cells.map (ren r) := by
  cases v with
  | agg cs => simp [ren, Value.cells, renA_map]
  | pointer a => cases a <;> simp [ren, Value.cells]
  | slice a n c => cases a <;> simp [ren, Value.cells]
  | map a => cases a <;> simp [ren, Value.cells]
  | _ => simp [ren, Value.cells]
theorem lt_cells {n : Nat} {v : Value} (h : Lt n v) : ∀ u ∈ v.cells.toList, Lt n u := by
  cases v with
  | agg cs =>
    simp only [Lt, LtA_iff] at h
    simpa [Value.cells] using h
  | _ => simpa [Value.cells] using h
end Go.Rn
/-
  A symbolic world: a tree of objects by number; what it says of a world. No condition.
-/
namespace Go.Rn
open Go.RowKit
set_option linter.unusedVariables false
set_option linter.unusedSimpArgs false
inductive Tr (α : Type) where
  | leaf
  | node (v : Option α) (l r : Tr α)
namespace Tr
variable {α : Type}
noncomputable def get (t : Tr α) : Nat → Option α :=
  Tr.rec (motive := fun _ => Nat → Option α) (fun _ => none)
    (fun v l r gl gr n => Nat.rec (motive := fun _ => Option α) v (fun k _ => cond (Nat.beq (k % 2) 0) (gl (k / 2)) (gr (k / 2))) n) t
noncomputable def put (x : Option α) (f : Nat) : Tr α → Nat → Tr α :=
  Nat.rec (motive := fun _ => Tr α → Nat → Tr α) (fun t _ => t)
    (fun _ ih t n => Tr.rec (motive := fun _ => Tr α)
      (Nat.rec (motive := fun _ => Tr α) (node x leaf leaf) (fun k _ => cond (Nat.beq (k % 2) 0) (node none (ih leaf (k / 2)) leaf) (node none leaf (ih leaf (k / 2)))) n)
      (fun v l r _ _ => Nat.rec (motive := fun _ => Tr α) (node x l r) (fun k _ => cond (Nat.beq (k % 2) 0) (node v (ih l (k / 2)) r) (node v l (ih r (k / 2)))) n) t) f
theorem get_leaf (n : Nat) : (leaf : Tr α).get n = none := rfl
theorem get_succ (v : Option α) (l r : Tr α) (k : Nat) : (node v l r).get (k + 1) = cond (Nat.beq (k % 2) 0) (l.get (k / 2)) (r.get (k / 2)) := rfl
theorem put_leaf0 (x : Option α) (f : Nat) : put x (f + 1) leaf 0 = node x leaf leaf := rfl
theorem put_leafS (x : Option α) (f k : Nat) : put x (f + 1) leaf (k + 1) = cond (Nat.beq (k % 2) 0) (node none (put x f leaf (k / 2)) leaf) (node none leaf (put x f leaf (k / 2))) := rfl
theorem put_nodeS (x : Option α) (f k : Nat) (v : Option α) (l r : Tr α) : put x (f + 1) (node v l r) (k + 1) = cond (Nat.beq (k % 2) 0) (node v (put x f l (k / 2)) r) (node v l (put x f r (k / 2))) := rfl
theorem get_put_same (x : Option α) : ∀ (f : Nat) (t : Tr α) (n : Nat), n + 1 < 2 ^ f → (put x f t n).get n = x
  | 0, t, n, h => by simp at h
  | f + 1, t, n, h => by
    have hk : ∀ k, n = k + 1 → k / 2 + 1 < 2 ^ f := fun k e => by rw [Nat.pow_succ] at h; omega
    cases t with
    | leaf =>
      cases n with
      | zero => rfl
      | succ k =>
        rw [put_leafS]
        cases hb : Nat.beq (k % 2) 0 with
        | true => rw [cond_true, get_succ, hb, cond_true]; exact get_put_same x f _ _ (hk k rfl)
        | false => rw [cond_false, get_succ, hb, cond_false]; exact get_put_same x f _ _ (hk k rfl)
    | node v l r =>
      cases n with
      | zero => rfl
      | succ k =>
        rw [put_nodeS]
        cases hb : Nat.beq (k % 2) 0 with
        | true => rw [cond_true, get_succ, hb, cond_true]; exact get_put_same x f _ _ (hk k rfl)
        | false => rw [cond_false, get_succ, hb, cond_false]; exact get_put_same x f _ _ (hk k rfl)
theorem half_inj {k m : Nat} (h1 : Nat.beq (k % 2) 0 = Nat.beq (m % 2) 0) (h2 : k / 2 = m / 2) : k = m := by
  have hb : ∀ a b, Nat.beq a b = true ↔ a = b := fun a b => by rw [Nat.beq_eq]
  have e : (k % 2 = 0) ↔ (m % 2 = 0) := (hb _ _).symm.trans ((by rw [h1] : (Nat.beq (k % 2) 0 = true) ↔ (Nat.beq (m % 2) 0 = true)).trans (hb _ _))
  omega
theorem get_put_ne (x : Option α) : ∀ (f : Nat) (t : Tr α) (n m : Nat), n ≠ m → (put x f t n).get m = t.get m
  | 0, t, n, m, h => rfl
  | f + 1, t, n, m, h => by
    cases t with
    | leaf =>
      cases n with
      | zero => cases m with
        | zero => exact absurd rfl h
        | succ j => rw [put_leaf0, get_succ]; cases Nat.beq (j % 2) 0 <;> rfl
      | succ k =>
        rw [put_leafS]
        cases hb : Nat.beq (k % 2) 0 with
        | true =>
          cases m with
          | zero => rfl
          | succ j =>
            rw [cond_true, get_succ]
            cases hj : Nat.beq (j % 2) 0 with
            | true => rw [cond_true]; exact get_put_ne x f _ _ _ (fun e => h (by rw [half_inj (hb.trans hj.symm) e]))
            | false => rfl
        | false =>
          cases m with
          | zero => rfl
          | succ j =>
            rw [cond_false, get_succ]
            cases hj : Nat.beq (j % 2) 0 with
            | true => rfl
            | false => rw [cond_false]; exact get_put_ne x f _ _ _ (fun e => h (by rw [half_inj (hb.trans hj.symm) e]))
    | node v l r =>
      cases n with
      | zero => cases m with
        | zero => exact absurd rfl h
        | succ j => rfl
      | succ k =>
        rw [put_nodeS]
        cases hb : Nat.beq (k % 2) 0 with
        | true =>
          cases m with
          | zero => rfl
          | succ j =>
            rw [cond_true, get_succ, get_succ]
            cases hj : Nat.beq (j % 2) 0 with
            | true => rw [cond_true, cond_true]; exact get_put_ne x f _ _ _ (fun e => h (by rw [half_inj (hb.trans hj.symm) e]))
            | false => rfl
        | false =>
          cases m with
          | zero => rfl
          | succ j =>
            rw [cond_false, get_succ, get_succ]
            cases hj : Nat.beq (j % 2) 0 with
            | true => rfl
            | false => rw [cond_false, cond_false]; exact get_put_ne x f _ _ _ (fun e => h (by rw [half_inj (hb.trans hj.symm) e]))
/-- Is there something? -/
def dep : Nat := 63
noncomputable def set (t : Tr α) (n : Nat) (x : α) : Tr α := put (some x) dep t n
noncomputable def del (t : Tr α) (n : Nat) : Tr α := put none dep t n
theorem get_set {t : Tr α} {n m : Nat} {x : α} (hn : n < capB) : (t.set n x).get m = if n = m then some x else t.get m := by
  unfold set
  split
  · rename_i e; subst e; exact get_put_same _ _ _ _ (by unfold capB dep at *; omega)
  · exact get_put_ne _ _ _ _ _ ‹_›
theorem get_del {t : Tr α} {n m : Nat} (hn : n < capB) : (t.del n).get m = if n = m then none else t.get m := by
  unfold del
  split
  · rename_i e; subst e; exact get_put_same _ _ _ _ (by unfold capB dep at *; omega)
  · exact get_put_ne _ _ _ _ _ ‹_›
end Tr
/-! ### lists, by their recursors -/
section
variable {α : Type}
noncomputable def nth (l : List α) : Nat → Option α :=
  List.rec (motive := fun _ => Nat → Option α) (fun _ => none) (fun y _ ih n => Nat.rec (motive := fun _ => Option α) (some y) (fun k _ => ih k) n) l
noncomputable def setN (l : List α) : Nat → α → List α :=
  List.rec (motive := fun _ => Nat → α → List α) (fun _ _ => []) (fun y l ih n x => Nat.rec (motive := fun _ => List α) (x :: l) (fun k _ => y :: ih k x) n) l
theorem nth_eq : ∀ (l : List α) (n : Nat), nth l n = l[n]?
  | [], n => by simp [nth]
  | y :: l, 0 => rfl
  | y :: l, n + 1 => by rw [List.getElem?_cons_succ, ← nth_eq l n]; rfl
theorem setN_eq : ∀ (l : List α) (n : Nat) (x : α), setN l n x = l.set n x
  | [], n, x => rfl
  | y :: l, 0, x => rfl
  | y :: l, n + 1, x => by rw [List.set_cons_succ, ← setN_eq l n x]; rfl
end
/-! ### objects -/
inductive SObj where
  | cells (c : List Value) (t : TypeId) (opn : Nat)
  | map (es : List (Value × Value)) (bs : List Nat) (clock : Nat)
  | iter (m : Option Nat) (since : Nat) (seen : List Nat) (last : Nat)
def ObjLt (n : Nat) : SObj → Prop
  | .cells c _ _ => LtL n c
  | .map es _ _ => ∀ e ∈ es, Lt n e.1 ∧ Lt n e.2
  | .iter m _ _ _ => ∀ k, m = some k → k < n
def ObjAt (r : Ren) (w : World) (i : Nat) : SObj → Prop
  | .cells c t opn => ∃ rest, w.heap[r.blk i]? = some (.cells (renL r c ++ rest).toArray t (0, 0)) ∧ (if opn = 0 then rest = [] else c.length + rest.length = r.cap i * opn ∧ r.cap i ≤ maxLen)
  | .map es bs clock => ∃ en, w.heap[r.blk i]? = some (.map en clock) ∧ en.toList.map (fun e => (e.key, e.val)) = es.map (fun e => (ren r e.1, ren r e.2)) ∧ en.toList.map (·.born) = bs
  | .iter m since seen last => w.heap[r.blk i]? = some (.mapIter (m.map r.blk) since seen.toArray last)
/-- What a symbolic world says. -/
structure Den (G : Nat) (w0 : World) (r : Ren) (h : Tr SObj) (nx : Nat) (w : World) : Prop where
  bel : Below w0.heap.size w0 w
  glo : ∀ g, g < G → r.blk g = g
  gle : G ≤ nx
  gsz : G ≤ w0.heap.size
  big : nx < capB
  low : ∀ i, G ≤ i → i < nx → w0.heap.size ≤ r.blk i ∧ r.blk i < w.heap.size
  inj : ∀ i j, h.get i ≠ none → h.get j ≠ none → r.blk i = r.blk j → i = j
  dom : ∀ i, h.get i ≠ none → i < nx
  lt : ∀ i o, h.get i = some o → ObjLt nx o
  obj : ∀ i o, h.get i = some o → ObjAt r w i o
theorem ObjLt.mono {n m : Nat} (h : n ≤ m) : ∀ {o : SObj}, ObjLt n o → ObjLt m o
  | .cells c _ _, ho => LtL.mono h ho
  | .map es _ _, ho => fun e he => ⟨Lt.mono h (ho e he).1, Lt.mono h (ho e he).2⟩
  | .iter m _ _ _, ho => fun k hk => Nat.lt_of_lt_of_le (ho k hk) h
theorem ObjAt.same {n i : Nat} {r r' : Ren} {w : World} (h : Agree n r r') (hi : i < n) : ∀ {o : SObj}, ObjLt n o → ObjAt r w i o → ObjAt r' w i o
  | .cells c t opn, hl, ⟨rest, h1, h2⟩ => ⟨rest, by rw [← (h i hi).1, ← LtL.same h hl]; exact h1, by rw [← (h i hi).2]; exact h2⟩
  | .map es bs clock, hl, ⟨en, h1, h2, h3⟩ => ⟨en, by rw [← (h i hi).1]; exact h1, by
      rw [h2]
      exact List.map_congr_left fun e he => by rw [Lt.same h (hl e he).1, Lt.same h (hl e he).2], h3⟩
  | .iter m since seen last, hl, h1 => by
    show w.heap[r'.blk i]? = some (.mapIter (m.map r'.blk) since seen.toArray last)
    have e : m.map r'.blk = m.map r.blk := by
      cases m with
      | none => rfl
      | some k => rw [Option.map_some, Option.map_some, (h k (hl k rfl)).1]
    rw [e, ← (h i hi).1]; exact h1
theorem ObjAt.keep {r : Ren} {w w' : World} {i : Nat} (h : w'.heap[r.blk i]? = w.heap[r.blk i]?) : ∀ {o : SObj}, ObjAt r w i o → ObjAt r w' i o
  | .cells c t opn, ⟨rest, h1, h2⟩ => ⟨rest, h.trans h1, h2⟩
  | .map es bs clock, ⟨en, h1, h2⟩ => ⟨en, h.trans h1, h2⟩
  | .iter m since seen last, h1 => h.trans h1
namespace Den
variable {G : Nat} {w0 : World} {r : Ren} {h : Tr SObj} {nx : Nat} {w : World}
theorem drew (D : Den G w0 r h nx w) : Den G w0 r h nx w.drew := ⟨D.bel.drew, D.glo, D.gle, D.gsz, D.big, D.low, D.inj, D.dom, D.lt, fun i o hi => (D.obj i o hi).keep rfl⟩
/-- The heap has grown by what is not known. -/
theorem more (D : Den G w0 r h nx w) {w' : World} (hb : Below w.heap.size w w') : Den G w0 r h nx w' := by
  refine ⟨D.bel.trans (hb.mono D.bel.size), D.glo, D.gle, D.gsz, D.big, fun i h1 h2 => ⟨(D.low i h1 h2).1, Nat.lt_of_lt_of_le (D.low i h1 h2).2 hb.size⟩, D.inj, D.dom, D.lt, fun i o hi => (D.obj i o hi).keep (hb.block _ ?_)⟩
  by_cases hg : i < G
  · rw [D.glo i hg]; exact Nat.lt_of_lt_of_le hg (Nat.le_trans D.gsz D.bel.size)
  · exact (D.low i (by omega) (D.dom i (by rw [hi]; simp))).2
/-- A new object. -/
def newR (r : Ren) (nx b c : Nat) : Ren := ⟨fun i => if i = nx then b else r.blk i, fun i => if i = nx then c else r.cap i⟩
theorem newR_agree (r : Ren) (nx b c : Nat) : Agree nx r (newR r nx b c) := fun i hi => by
  have : i ≠ nx := by omega
  simp [newR, this]
theorem add (D : Den G w0 r h nx w) {w' : World} (hb : Below w.heap.size w w') {b c : Nat} (hlo : w.heap.size ≤ b) (hbs : b < w'.heap.size) (hbig : nx + 1 < capB) {o : SObj} (ho : ObjLt (nx + 1) o) (hat : ObjAt (newR r nx b c) w' nx o) : Den G w0 (newR r nx b c) (h.set nx o) (nx + 1) w' := by
  have D' := D.more hb
  have ag := newR_agree r nx b c
  have hnx : (newR r nx b c).blk nx = b := by simp [newR]
  have old : ∀ i, i < nx → (newR r nx b c).blk i = r.blk i := fun i hi => (ag i hi).1.symm
  have hlt : ∀ i, h.get i ≠ none → r.blk i < w.heap.size := fun i hi => by
    by_cases hg : i < G
    · rw [D.glo i hg]; exact Nat.lt_of_lt_of_le hg (Nat.le_trans D.gsz D.bel.size)
    · exact (D.low i (by omega) (D.dom i hi)).2
  have hs : ∀ i, (h.set nx o).get i = if nx = i then some o else h.get i := fun i => Tr.get_set D.big
  have hnone : h.get nx = none := by
    cases e : h.get nx with
    | none => rfl
    | some x => exact absurd (D.dom nx (by rw [e]; simp)) (Nat.lt_irrefl _)
  refine ⟨D'.bel, fun g hg => ?_, Nat.le_succ_of_le D.gle, D.gsz, hbig, fun i h1 h2 => ?_, fun i j hi hj e => ?_, fun i hi => ?_, fun i x hi => ?_, fun i x hi => ?_⟩
  · rw [old g (Nat.lt_of_lt_of_le hg D.gle)]; exact D.glo g hg
  · by_cases e : i = nx
    · subst e; rw [hnx]; exact ⟨Nat.le_trans D.bel.size hlo, hbs⟩
    · rw [old i (by omega)]; exact D'.low i h1 (by omega)
  · rw [hs] at hi hj
    by_cases ei : nx = i
    · by_cases ej : nx = j
      · omega
      · subst ei
        rw [if_neg ej] at hj
        rw [hnx, old j (D.dom j hj)] at e
        have := hlt j hj; omega
    · by_cases ej : nx = j
      · subst ej
        rw [if_neg ei] at hi
        rw [hnx, old i (D.dom i hi)] at e
        have := hlt i hi; omega
      · rw [if_neg ei] at hi; rw [if_neg ej] at hj
        rw [old i (D.dom i hi), old j (D.dom j hj)] at e
        exact D.inj i j hi hj e
  · rw [hs] at hi
    by_cases ei : nx = i
    · omega
    · rw [if_neg ei] at hi; have := D.dom i hi; omega
  · rw [hs] at hi
    by_cases ei : nx = i
    · rw [if_pos ei] at hi; cases hi; exact ho
    · rw [if_neg ei] at hi; exact (D.lt i x hi).mono (Nat.le_succ _)
  · rw [hs] at hi
    by_cases ei : nx = i
    · rw [if_pos ei] at hi; cases hi; subst ei; exact hat
    · rw [if_neg ei] at hi; exact (D'.obj i x hi).same ag (D.dom i (by rw [hi]; simp)) (D.lt i x hi)
/-- A block that is laid by the call itself. -/
theorem alloc (D : Den G w0 r h nx w) (hbig : nx + 1 < capB) {cs : List Value} {t : TypeId} (hl : LtL nx cs) : Den G w0 (newR r nx w.heap.size 0) (h.set nx (.cells cs t 0)) (nx + 1) (w.alloc (.cells (renL r cs).toArray t (0, 0))) := by
  refine D.add ((Below.refl _ _).alloc (Nat.le_refl _) _) (Nat.le_refl _) (by simp) hbig (LtL.mono (Nat.le_succ _) hl) ⟨[], ?_, rfl⟩
  have e : (newR r nx w.heap.size 0).blk nx = w.heap.size := by simp [newR]
  rw [e, ← LtL.same (newR_agree r nx w.heap.size 0) hl, List.append_nil]
  show (w.heap.push _)[w.heap.size]? = _
  simp
/-- An object is changed. -/
theorem change (D : Den G w0 r h nx w) {w' : World} {i : Nat} {o o' : SObj} (hi : h.get i = some o) (hG : G ≤ i) (hb : Below w0.heap.size w0 w') (hsz : w.heap.size ≤ w'.heap.size) (hk : ∀ k, k ≠ r.blk i → w'.heap[k]? = w.heap[k]?) (ho : ObjLt nx o') (hat : ObjAt r w' i o') : Den G w0 r (h.set i o') nx w' := by
  have hn : i < nx := D.dom i (by rw [hi]; simp)
  have hs : ∀ j, (h.set i o').get j = if i = j then some o' else h.get j := fun j => Tr.get_set (Nat.lt_trans hn D.big)
  have hne : ∀ j, (h.set i o').get j ≠ none → h.get j ≠ none := fun j hj => by
    rw [hs] at hj
    by_cases e : i = j
    · subst e; rw [hi]; simp
    · rwa [if_neg e] at hj
  refine ⟨hb, D.glo, D.gle, D.gsz, D.big, fun j h1 h2 => ⟨(D.low j h1 h2).1, Nat.lt_of_lt_of_le (D.low j h1 h2).2 hsz⟩, fun j k hj hk => D.inj j k (hne j hj) (hne k hk), fun j hj => D.dom j (hne j hj), fun j x hj => ?_, fun j x hj => ?_⟩
  · rw [hs] at hj
    by_cases e : i = j
    · rw [if_pos e] at hj; cases hj; exact ho
    · rw [if_neg e] at hj; exact D.lt j x hj
  · rw [hs] at hj
    by_cases e : i = j
    · rw [if_pos e] at hj; cases hj; subst e; exact hat
    · rw [if_neg e] at hj
      refine (D.obj j x hj).keep (hk _ fun e2 => e ?_)
      exact (D.inj j i (by rw [hj]; simp) (by rw [hi]; simp) e2).symm
end Den
end Go.Rn
