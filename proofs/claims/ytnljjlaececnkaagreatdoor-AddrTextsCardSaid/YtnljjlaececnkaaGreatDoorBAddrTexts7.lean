/-
  Merged texts (CO, CP, KAddrTexts, EN, JF, JG): what the row of AddrTexts comes to, part 7 of 7. Conditions: each part's own, told at its head.
-/
import Derived.Test.YtnljjlaececnkaaGreatDoorBAddrTexts1
import Derived.Test.YtnljjlaececnkaaGreatDoorBAddrTexts2
import Derived.Test.YtnljjlaececnkaaGreatDoorBAddrTexts3
import Derived.Test.YtnljjlaececnkaaGreatDoorBAddrTexts4
import Derived.Test.YtnljjlaececnkaaGreatDoorBAddrTexts5
import Derived.Test.YtnljjlaececnkaaGreatDoorBAddrTexts6
import Derived.Test.YtnljjlaececnkaaGreatDoorRows
import Derived.Lib.LaidTab
import Derived.Stop.LaidErr
import Derived.Shelf.Vars
import Derived.MakeChecks
import Derived.JoinedOf
import Derived.KernelRfl
import Derived.SevenTiedAt
/-
  An address in groups, the document's. Condition: an address is sixteen bytes.
-/
namespace Go.Proofs.YtnljjlaececnkaaGreatDoor
open Go.RowKit
set_option linter.unusedVariables false
set_option linter.unusedSimpArgs false
theorem or_bytes64 {x y : Int} (x0 : 0 ≤ x) (x1 : x < 256) (y0 : 0 ≤ y) (y1 : y < 256) : bits .or .i64 (x * 256) y = x * 256 + y := by
  have w : ∀ n : Int, 0 ≤ n → n < 2 ^ 63 → IntKind.i64.wrap n = n := fun n h0 h1 => IntWalk.i64_in _ (by omega)
  exact bits_join .i64 63 (by decide) w 8 (x * 256) y (by omega) (by simp) (by simp; omega) y0 (by simpa using y1) (by simp; omega)
theorem ba_add (W : World) (s t : ByteArray) (h : s.size + t.size ≤ 9223372036854775807) : (binOp .add 9 (.string s) (.string t)).run Tryz.prog W = .ok (.string (s ++ t)) W := by
  rw [binOp_string_add]
  exact run_string_add_sum (P := Tryz.prog) (w := W) s t (by omega)
/-- A text that wants no colon, or one that does. -/
theorem sepG_cases (o : List UInt8) : (o = [] ∧ sepG o = o) ∨ (∃ m x, o.length = m + 1 ∧ o[m]? = some x ∧ ((x = 58 ∧ sepG o = o) ∨ (x ≠ 58 ∧ sepG o = o ++ [58]))) := by
  rcases List.eq_nil_or_concat o with rfl | ⟨m, x, rfl⟩
  · exact .inl ⟨rfl, rfl⟩
  · right
    rw [List.concat_eq_append]
    refine ⟨m.length, x, by simp, by simp, ?_⟩
    by_cases h : x = 58
    · exact .inl ⟨h, by unfold sepG; rw [if_pos (.inr (by simp [h]))]⟩
    · exact .inr ⟨h, by unfold sepG; exact if_neg (fun h1 => h1.elim (fun h1 => by simp at h1) (fun h1 => by simp at h1; exact h h1))⟩
set_option maxRecDepth 100000 in
set_option maxHeartbeats 3200000 in
/-- sixes. -/
theorem sixes_any {w : World} {a : List Int} (ha : isA a) : Calls Tryz.prog 108 #[vA a] w fun e w' => e = .returned (.string ⟨(groupedS a).toArray⟩) ∧ Below w.heap.size w w' := by
  have B := ((Bz.start w).alloc (oA a) rfl : Bz w [(w.heap.size, oA a)] _)
  have hb := Lib.hid (box1 w (oA a))
  have Ha := Lib.hid ha
  clear ha
  obtain ⟨G, hG⟩ : ∃ G, groups a = G := ⟨_, rfl⟩
  have hl : G.length = 8 := by rw [← hG]; exact groups_len a
  replace hl := Lib.hid hl
  replace hG := Lib.hid hG
  unfold vA
  go_enter Tryz.func108, Tryz.ntmps108
  go_wp2
  go_loop [3, 4, 5] (fun x3 x4 x5 => ∃ (i m : Nat) (b : Int), i ≤ 8 ∧ x5 = .int .i64 i ∧ x3 = .int .i64 b ∧ x4 = .int .i64 m ∧ 1 ≤ m ∧ m ≤ 9 ∧ Hid (bestI (runAt G i) = b ∧ longN (runAt G i) = m)) (fun _ _ x5 => 8 - (intOf x5).toNat)
  case atStart => exact ⟨0, 1, -1, by omega, rfl, rfl, rfl, by omega, by omega, Lib.hid ⟨rfl, rfl⟩⟩
  case round =>
    obtain ⟨i, m, b, hi, rfl, rfl, rfl, m1, m9, hbm⟩ := hrel
    by_cases hlt : i < 8
    · go_wp2
      go_loop [6] (fun x6 => ∃ n : Nat, i + n ≤ 8 ∧ x6 = .int .i64 n ∧ Hid (zc (G.drop i) = n + zc (G.drop (i + n)))) (fun x6 => 8 - (intOf x6).toNat)
      case atStart => exact ⟨0, by omega, rfl, Lib.hid (by simp)⟩
      case round =>
        obtain ⟨n, hn, rfl, hz⟩ := hrel
        have fin : ∀ (h0 : Hid (zc (G.drop (i + n)) = 0)), Hid (zc (G.drop i) = n) := fun h0 => Lib.hid (by have := hz.out; rw [h0.out] at this; omega)
        have hmore : ∀ (h0 : Hid (zc (G.drop i) = n)) (h : m < n), Hid (bestI (runAt G (i + 1)) = i ∧ longN (runAt G (i + 1)) = n) := fun h0 h => Lib.hid (run_more h0.out (by rw [hbm.out.2]; exact h))
        have hless : ∀ (h0 : Hid (zc (G.drop i) = n)) (h : ¬ m < n), Hid (bestI (runAt G (i + 1)) = b ∧ longN (runAt G (i + 1)) = m) := fun h0 h => Lib.hid (by rw [run_less h0.out (by rw [hbm.out.2]; exact h)]; exact hbm.out)
        by_cases hlt2 : i + n < 8
        · obtain ⟨x, hx, hx2, x0, x1⟩ := isA_getD Ha.out (j := 2 * (i + n)) (by omega)
          obtain ⟨y, hy, hy2, y0, y1⟩ := isA_getD Ha.out (j := 2 * (i + n) + 1) (by omega)
          have hgr := gr_zero Ha.out hlt2 hx2 hy2 x0 y0
          have hget : G[i + n]? = some (gr a (i + n)) := by rw [← hG.out]; exact groups_get hlt2
          have cx : (w.alloc (oA a)).cell? ⟨w.heap.size, 2 * (i + n), none⟩ = some (.int .u8 x) := (row_cell hb.out).trans (by rw [List.getElem?_toArray]; exact nums_get hx)
          have cy : (w.alloc (oA a)).cell? ⟨w.heap.size, 2 * (i + n) + 1, none⟩ = some (.int .u8 y) := (row_cell hb.out).trans (by rw [List.getElem?_toArray]; exact nums_get hy)
          unfold oA at cx cy
          by_cases hxz : x = 0
          · by_cases hyz : y = 0
            · have hnx : Hid (zc (G.drop i) = n + 1 + zc (G.drop (i + (n + 1)))) := Lib.hid (by
                have h0 := hgr.2 ⟨hxz, hyz⟩
                rw [h0] at hget
                rw [hz.out, zc_zero hget, Nat.add_assoc i n 1]; omega)
              clear hgr hget hx2 hy2 hx hy fin hmore hless
              subst hxz hyz
              go_wp2
              refine ⟨⟨n + 1, by omega, by congr 1, hnx⟩, by simp [intOf]; omega⟩
            · have hzc : Hid (zc (G.drop (i + n)) = 0) := Lib.hid (zc_pos hget (fun h => hyz (hgr.1 h).2))
              have hyb : (y == 0) = false := by simpa using hyz
              have hF := fin hzc
              clear hgr hget hx2 hy2 hx hy fin
              subst hxz
              replace hyz := Lib.hid hyz
              by_cases hmn : m < n
              · have hR := hmore hF hmn
                clear hmore hless
                go_wp2
                refine ⟨⟨i + 1, n, i, by omega, by congr 1, rfl, rfl, by omega, by omega, hR⟩, by simp [intOf]; omega⟩
              · have hR := hless hF hmn
                clear hmore hless
                go_wp2
                refine ⟨⟨i + 1, m, b, by omega, by congr 1, rfl, rfl, by omega, by omega, hR⟩, by simp [intOf]; omega⟩
          · have hzc : Hid (zc (G.drop (i + n)) = 0) := Lib.hid (zc_pos hget (fun h => hxz (hgr.1 h).1))
            have hxb : (x == 0) = false := by simpa using hxz
            have hF := fin hzc
            clear hgr hget hx2 hy2 hx hy fin
            replace hxz := Lib.hid hxz
            by_cases hmn : m < n
            · have hR := hmore hF hmn
              clear hmore hless
              go_wp2
              refine ⟨⟨i + 1, n, i, by omega, by congr 1, rfl, rfl, by omega, by omega, hR⟩, by simp [intOf]; omega⟩
            · have hR := hless hF hmn
              clear hmore hless
              go_wp2
              refine ⟨⟨i + 1, m, b, by omega, by congr 1, rfl, rfl, by omega, by omega, hR⟩, by simp [intOf]; omega⟩
        · have hF := fin (Lib.hid (zc_end (by have := hl.out; omega)))
          by_cases hmn : m < n
          · have hR := hmore hF hmn
            clear hmore hless fin
            go_wp2
            refine ⟨⟨i + 1, n, i, by omega, by congr 1, rfl, rfl, by omega, by omega, hR⟩, by simp [intOf]; omega⟩
          · have hR := hless hF hmn
            clear hmore hless fin
            go_wp2
            refine ⟨⟨i + 1, m, b, by omega, by congr 1, rfl, rfl, by omega, by omega, hR⟩, by simp [intOf]; omega⟩
    · obtain rfl : i = 8 := by omega
      obtain ⟨r, hr⟩ : ∃ r, runAt G 8 = r := ⟨_, rfl⟩
      have hle := runAt_le G 8 (by have := hl.out; omega)
      have htw := runAt_two G 8
      have hb1 := hbm.out.1
      have hm1 := hbm.out.2
      have hall : outAt G r 8 = groupedS a := by rw [← hr, ← hG.out]; exact outAt_all
      have hlen : ∀ j, j ≤ 8 → (outAt G r j).length ≤ 100 := by intro j hj; have := groupedS_len Ha.out j hj; rwa [hG.out, hr] at this
      rw [hr] at hle htw hb1 hm1
      obtain ⟨lo, hi2⟩ := r
      simp only at hle htw
      have hcase : (lo = hi2 ∧ b = -1) ∨ (lo < hi2 ∧ b = lo ∧ lo + m = hi2) := by
        unfold bestI at hb1
        unfold longN at hm1
        simp only at hb1 hm1
        split at hb1 <;> omega
      have h28 : hi2 ≤ 8 := by have := hl.out; omega
      replace hall := Lib.hid hall
      replace hlen := Lib.hid hlen
      clear hr hb1 hm1 hbm htw
      go_wp2
      go_loopw [7, 8] (fun x7 x8 wr => ∃ (j : Nat) (O : ByteArray), j ≤ 8 ∧ (lo = hi2 ∨ j ≤ lo ∨ hi2 ≤ j) ∧ x8 = .int .i64 j ∧ x7 = .string O ∧ Hid (O = ⟨(outAt G (lo, hi2) j).toArray⟩) ∧ Bz w [(w.heap.size, oA a)] wr) (fun x7 x8 wr => 8 - (intOf x8).toNat)
      case atStart => exact ⟨0, _, by omega, by omega, rfl, rfl, Lib.hid (by rw [outAt_zero]), B⟩
      case round =>
        obtain ⟨j, O, hj, hsk, rfl, rfl, hO, bx⟩ := hrel
        have hsz : O.size ≤ 100 := by rw [hO.out]; show (outAt G (lo, hi2) j).toArray.size ≤ 100; rw [List.size_toArray]; exact hlen.out j hj
        by_cases hlt : j < 8
        · by_cases hbest : lo < hi2 ∧ j = lo
          · obtain ⟨hlo, rfl⟩ := hbest
            have eqb : b = j := by omega
            subst eqb
            have hnx : Hid (O ++ (⟨#[58, 58]⟩ : ByteArray) = ⟨(outAt G (j, hi2) hi2).toArray⟩) := Lib.hid (by
              rw [← outAt_gap (r := (j, hi2)) hlo, hO.out]
              show (⟨(outAt G (j, hi2) j).toArray⟩ : ByteArray) ++ ⟨#[58, 58]⟩ = _
              apply ByteArray.ext; simp)
            go_wp2
            refine ⟨⟨hi2, _, by omega, by omega, by congr 1; omega, rfl, hnx, bx⟩, by simp [intOf]; omega⟩
          · have hne : ((j : Int) == b) = false := by simp; omega
            obtain ⟨x, hx, hx2, x0, x1⟩ := isA_getD Ha.out (j := 2 * j) (by omega)
            obtain ⟨y, hy, hy2, y0, y1⟩ := isA_getD Ha.out (j := 2 * j + 1) (by omega)
            have hg : ((gr a j : Nat) : Int) = x * 256 + y := by unfold gr; rw [hx2, hy2]; omega
            have hhx : hexI (x * 256 + y) = hexT (gr a j) := by rw [← hg]; rfl
            have hl4 : (hexI (x * 256 + y)).length ≤ 4 := hexI_len (by omega) (by omega)
            have hhs : (⟨(hexI (x * 256 + y)).toArray⟩ : ByteArray).size ≤ 4 := by show (hexI (x * 256 + y)).toArray.size ≤ 4; rw [List.size_toArray]; exact hl4
            have hget : G[j]? = some (gr a j) := by rw [← hG.out]; exact groups_get hlt
            have key : Hid (∀ P : ByteArray, P = ⟨(sepG (outAt G (lo, hi2) j)).toArray⟩ → P ++ (⟨(hexI (x * 256 + y)).toArray⟩ : ByteArray) = ⟨(outAt G (lo, hi2) (j + 1)).toArray⟩) := Lib.hid (fun P hP => by
              rw [← outAt_step (r := (lo, hi2)) hle.1 hget (by simp only; omega), hP, hhx]
              apply ByteArray.ext; simp)
            have hsep := sepG_cases (outAt G (lo, hi2) j)
            have nxt : lo = hi2 ∨ j + 1 ≤ lo ∨ hi2 ≤ j + 1 := by omega
            replace hx2 := Lib.hid hx2
            replace hy2 := Lib.hid hy2
            have hor := or_bytes64 x0 x1 y0 y1
            have w1 : IntKind.i64.wrap (2 * (j : Int)) = 2 * (j : Int) := IntWalk.i64_in _ (by omega)
            have w2 : IntKind.i64.wrap (2 * (j : Int) + 1) = 2 * (j : Int) + 1 := IntWalk.i64_in _ (by omega)
            have w3 : IntKind.i64.wrap x = x := IntWalk.i64_in _ (by omega)
            have w4 : IntKind.i64.wrap y = y := IntWalk.i64_in _ (by omega)
            have w5 : IntKind.i64.wrap (x * 256) = x * 256 := IntWalk.i64_in _ (by omega)
            have hn1 : (2 * (j : Int)).toNat = 2 * j := by omega
            have hn2 : (2 * (j : Int) + 1).toNat = 2 * j + 1 := by omega
            have q1 : (0 : Int) ≤ 2 * j := by omega
            have q2 : 2 * (j : Int) < 16 := by omega
            have q3 : (0 : Int) ≤ 2 * j + 1 := by omega
            have q4 : 2 * (j : Int) + 1 < 16 := by omega
            clear hx hy hg hhx hget hsk hcase
            rcases hsep with ⟨h0, hs⟩ | ⟨mm, z, hzl, hz, hs⟩
            · have hO2 : O = ⟨#[]⟩ := by rw [hO.out, h0]
              have kk := Lib.hid (key.out ⟨#[]⟩ (by rw [hs, h0]))
              clear hs h0 key
              subst hO2
              have hsum : (⟨#[]⟩ : ByteArray).size + (⟨(hexI (x * 256 + y)).toArray⟩ : ByteArray).size ≤ 9223372036854775807 := by show 0 + _ ≤ _; omega
              replace hhs := Lib.hid hhs
              replace hsum := Lib.hid hsum
              go_wp2_with fail
              refine wp_region_C (C := Bz w [(w.heap.size, oA a)]) (by kernel_rfl) (by kernel_rfl) (bx.drew) ?_
              refine wpQuiet_hide ?_
              intro lq hlq
              refine wpQuiet_step_h hlq ?_
              clear hlq lq
              intro K lq hlq hK
              refine wanted_go (by rfl) ?_
              refine ⟨?_, fun W hW => ?_, ?_⟩
              rotate_left
              · skip
                go_simp
                with_reducible rfl
              refine hK _ ?_
              clear hK K
              (try simp only [Act.put, List.setIfInBounds_toArray, List.set_cons_zero, List.set_cons_succ])
              refine wpQuiet_step_h hlq ?_
              clear hlq lq
              intro K lq hlq hK
              refine wanted_go (by rfl) ?_
              refine ⟨?_, fun W hW => ?_, ?_⟩
              rotate_left
              · skip
                go_simp
                with_reducible rfl
              refine hK _ ?_
              clear hK K
              (try simp only [Act.put, List.setIfInBounds_toArray, List.set_cons_zero, List.set_cons_succ])
              refine wpQuiet_step_h hlq ?_
              clear hlq lq
              intro K lq hlq hK
              refine wanted_go (by rfl) ?_
              refine ⟨?_, fun W hW => ?_, ?_⟩
              rotate_left
              · skip
                go_simp
                with_reducible rfl
              refine hK _ ?_
              clear hK K
              (try simp only [Act.put, List.setIfInBounds_toArray, List.set_cons_zero, List.set_cons_succ])
              refine wpQuiet_step_h hlq ?_
              clear hlq lq
              intro K lq hlq hK
              refine wanted_go (by rfl) ?_
              refine ⟨?_, fun W hW => ?_, ?_⟩
              rotate_left
              · skip
                go_simp
                with_reducible rfl
              refine hK _ ?_
              clear hK K
              (try simp only [Act.put, List.setIfInBounds_toArray, List.set_cons_zero, List.set_cons_succ])
              refine wpQuiet_step_h hlq ?_
              clear hlq lq
              intro K lq hlq hK
              refine wanted_go (by rfl) ?_
              refine ⟨.int .u8 x, fun W hW => ?_, ?_⟩
              · skip
                rw [← hx2.out]; exact quiet_load 5 _ rfl rfl (ldAi (i := 2 * j) (by omega) (hW.all.get 0 (x := (w.heap.size, oA a)) rfl) Ha.out)
              refine hK _ ?_
              clear hK K
              (try simp only [Act.put, List.setIfInBounds_toArray, List.set_cons_zero, List.set_cons_succ])
              refine wpQuiet_step_h hlq ?_
              clear hlq lq
              intro K lq hlq hK
              refine wanted_go (by rfl) ?_
              refine ⟨?_, fun W hW => ?_, ?_⟩
              rotate_left
              · skip
                go_simp
                with_reducible rfl
              refine hK _ ?_
              clear hK K
              (try simp only [Act.put, List.setIfInBounds_toArray, List.set_cons_zero, List.set_cons_succ])
              refine wpQuiet_step_h hlq ?_
              clear hlq lq
              intro K lq hlq hK
              refine wanted_go (by rfl) ?_
              refine ⟨?_, fun W hW => ?_, ?_⟩
              rotate_left
              · skip
                go_simp
                with_reducible rfl
              refine hK _ ?_
              clear hK K
              (try simp only [Act.put, List.setIfInBounds_toArray, List.set_cons_zero, List.set_cons_succ])
              refine wpQuiet_step_h hlq ?_
              clear hlq lq
              intro K lq hlq hK
              refine wanted_go (by rfl) ?_
              refine ⟨?_, fun W hW => ?_, ?_⟩
              rotate_left
              · skip
                go_simp
                with_reducible rfl
              refine hK _ ?_
              clear hK K
              (try simp only [Act.put, List.setIfInBounds_toArray, List.set_cons_zero, List.set_cons_succ])
              refine wpQuiet_step_h hlq ?_
              clear hlq lq
              intro K lq hlq hK
              refine wanted_go (by rfl) ?_
              refine ⟨?_, fun W hW => ?_, ?_⟩
              rotate_left
              · skip
                go_simp
                with_reducible rfl
              refine hK _ ?_
              clear hK K
              (try simp only [Act.put, List.setIfInBounds_toArray, List.set_cons_zero, List.set_cons_succ])
              refine wpQuiet_step_h hlq ?_
              clear hlq lq
              intro K lq hlq hK
              refine wanted_go (by rfl) ?_
              refine ⟨?_, fun W hW => ?_, ?_⟩
              rotate_left
              · skip
                go_simp
                with_reducible rfl
              refine hK _ ?_
              clear hK K
              (try simp only [Act.put, List.setIfInBounds_toArray, List.set_cons_zero, List.set_cons_succ])
              refine wpQuiet_step_h hlq ?_
              clear hlq lq
              intro K lq hlq hK
              refine wanted_go (by rfl) ?_
              refine ⟨?_, fun W hW => ?_, ?_⟩
              rotate_left
              · skip
                go_simp
                with_reducible rfl
              refine hK _ ?_
              clear hK K
              (try simp only [Act.put, List.setIfInBounds_toArray, List.set_cons_zero, List.set_cons_succ])
              refine wpQuiet_step_h hlq ?_
              clear hlq lq
              intro K lq hlq hK
              refine wanted_go (by rfl) ?_
              refine ⟨.int .u8 y, fun W hW => ?_, ?_⟩
              · skip
                rw [← hy2.out]; exact quiet_load 5 _ rfl rfl (ldAi (i := 2 * j + 1) (by omega) (hW.all.get 0 (x := (w.heap.size, oA a)) rfl) Ha.out)
              refine hK _ ?_
              clear hK K
              (try simp only [Act.put, List.setIfInBounds_toArray, List.set_cons_zero, List.set_cons_succ])
              refine wpQuiet_step_h hlq ?_
              clear hlq lq
              intro K lq hlq hK
              refine wanted_go (by rfl) ?_
              refine ⟨?_, fun W hW => ?_, ?_⟩
              rotate_left
              · skip
                go_simp
                with_reducible rfl
              refine hK _ ?_
              clear hK K
              (try simp only [Act.put, List.setIfInBounds_toArray, List.set_cons_zero, List.set_cons_succ])
              refine wpQuiet_step_h hlq ?_
              clear hlq lq
              intro K lq hlq hK
              refine wanted_go (by rfl) ?_
              refine ⟨?_, fun W hW => ?_, ?_⟩
              rotate_left
              · skip
                go_simp
                with_reducible rfl
              refine hK _ ?_
              clear hK K
              (try simp only [Act.put, List.setIfInBounds_toArray, List.set_cons_zero, List.set_cons_succ])
              refine wpQuiet_step_h hlq ?_
              clear hlq lq
              intro K lq hlq hK
              refine wanted_go (by rfl) ?_
              refine ⟨.string ⟨(hexI (x * 256 + y)).toArray⟩, fun W hW => ?_, ?_⟩
              · go_simp
                exact (hexes_call (by omega) (by omega)).mono fun e W2 hc2 => ⟨hc2.1, hW.go hc2.2⟩
              refine hK _ ?_
              clear hK K
              (try simp only [Act.put, List.setIfInBounds_toArray, List.set_cons_zero, List.set_cons_succ])
              refine wpQuiet_step_h hlq ?_
              clear hlq lq
              intro K lq hlq hK
              refine wanted_go (by rfl) ?_
              refine ⟨.string ((⟨#[]⟩ : ByteArray) ++ ⟨(hexI (x * 256 + y)).toArray⟩), fun W hW => ?_, ?_⟩
              · skip
                exact quiet_add rfl rfl rfl (ba_add W _ _ hsum.out)
              refine hK _ ?_
              clear hK K
              (try simp only [Act.put, List.setIfInBounds_toArray, List.set_cons_zero, List.set_cons_succ])
              refine wpQuiet_step_h hlq ?_
              clear hlq lq
              intro K lq hlq hK
              refine wanted_go (by rfl) ?_
              refine ⟨?_, fun W hW => ?_, ?_⟩
              rotate_left
              · skip
                go_simp
                with_reducible rfl
              refine hK _ ?_
              clear hK K
              (try simp only [Act.put, List.setIfInBounds_toArray, List.set_cons_zero, List.set_cons_succ])
              refine wpQuiet_nil_h hlq ?_
              clear hlq lq bx
              intro V1 hV2
              go_wp2_with fail
              refine ⟨⟨j + 1, _, by omega, nxt, by congr 1, rfl, kk, hV2⟩, by simp [intOf]; omega⟩
            · have hs2 : O.size = mm + 1 := by rw [hO.out]; show (outAt G (lo, hi2) j).toArray.size = _; rw [List.size_toArray, hzl]
              have he := emp_false (s := O) (by omega)
              have hzb : O[mm]'(by omega) = z := by
                have h1 := get_byte O mm (by omega)
                have h2 : O.data.toList = outAt G (lo, hi2) j := by rw [hO.out]
                rw [h2, hz] at h1
                exact (Option.some.inj h1).symm
              have hix : ((O.size : Int) - 1) = (mm : Int) := by omega
              rcases hs with ⟨hz58, hs⟩ | ⟨hz58, hs⟩
              · have hb : ((O[mm]'(by omega)).toNat : Int) = 58 := by rw [hzb, hz58]; rfl
                have hb2 : (((O[mm]'(by omega)).toNat : Int) != 58) = false := by rw [hb]; rfl
                have kk := Lib.hid (key.out O (by rw [hs]; exact hO.out))
                have hsum : O.size + (⟨(hexI (x * 256 + y)).toArray⟩ : ByteArray).size ≤ 9223372036854775807 := by omega
                replace hhs := Lib.hid hhs
                replace hsum := Lib.hid hsum
                clear hs key hb hzb hz hzl
                go_wp2_with fail
                refine wp_region_C (C := Bz w [(w.heap.size, oA a)]) (by kernel_rfl) (by kernel_rfl) (bx.drew) ?_
                refine wpQuiet_hide ?_
                intro lq hlq
                refine wpQuiet_step_h hlq ?_
                clear hlq lq
                intro K lq hlq hK
                refine wanted_go (by rfl) ?_
                refine ⟨?_, fun W hW => ?_, ?_⟩
                rotate_left
                · skip
                  go_simp
                  with_reducible rfl
                refine hK _ ?_
                clear hK K
                (try simp only [Act.put, List.setIfInBounds_toArray, List.set_cons_zero, List.set_cons_succ])
                refine wpQuiet_step_h hlq ?_
                clear hlq lq
                intro K lq hlq hK
                refine wanted_go (by rfl) ?_
                refine ⟨?_, fun W hW => ?_, ?_⟩
                rotate_left
                · skip
                  go_simp
                  with_reducible rfl
                refine hK _ ?_
                clear hK K
                (try simp only [Act.put, List.setIfInBounds_toArray, List.set_cons_zero, List.set_cons_succ])
                refine wpQuiet_step_h hlq ?_
                clear hlq lq
                intro K lq hlq hK
                refine wanted_go (by rfl) ?_
                refine ⟨?_, fun W hW => ?_, ?_⟩
                rotate_left
                · skip
                  go_simp
                  with_reducible rfl
                refine hK _ ?_
                clear hK K
                (try simp only [Act.put, List.setIfInBounds_toArray, List.set_cons_zero, List.set_cons_succ])
                refine wpQuiet_step_h hlq ?_
                clear hlq lq
                intro K lq hlq hK
                refine wanted_go (by rfl) ?_
                refine ⟨?_, fun W hW => ?_, ?_⟩
                rotate_left
                · skip
                  go_simp
                  with_reducible rfl
                refine hK _ ?_
                clear hK K
                (try simp only [Act.put, List.setIfInBounds_toArray, List.set_cons_zero, List.set_cons_succ])
                refine wpQuiet_step_h hlq ?_
                clear hlq lq
                intro K lq hlq hK
                refine wanted_go (by rfl) ?_
                refine ⟨.int .u8 x, fun W hW => ?_, ?_⟩
                · skip
                  rw [← hx2.out]; exact quiet_load 5 _ rfl rfl (ldAi (i := 2 * j) (by omega) (hW.all.get 0 (x := (w.heap.size, oA a)) rfl) Ha.out)
                refine hK _ ?_
                clear hK K
                (try simp only [Act.put, List.setIfInBounds_toArray, List.set_cons_zero, List.set_cons_succ])
                refine wpQuiet_step_h hlq ?_
                clear hlq lq
                intro K lq hlq hK
                refine wanted_go (by rfl) ?_
                refine ⟨?_, fun W hW => ?_, ?_⟩
                rotate_left
                · skip
                  go_simp
                  with_reducible rfl
                refine hK _ ?_
                clear hK K
                (try simp only [Act.put, List.setIfInBounds_toArray, List.set_cons_zero, List.set_cons_succ])
                refine wpQuiet_step_h hlq ?_
                clear hlq lq
                intro K lq hlq hK
                refine wanted_go (by rfl) ?_
                refine ⟨?_, fun W hW => ?_, ?_⟩
                rotate_left
                · skip
                  go_simp
                  with_reducible rfl
                refine hK _ ?_
                clear hK K
                (try simp only [Act.put, List.setIfInBounds_toArray, List.set_cons_zero, List.set_cons_succ])
                refine wpQuiet_step_h hlq ?_
                clear hlq lq
                intro K lq hlq hK
                refine wanted_go (by rfl) ?_
                refine ⟨?_, fun W hW => ?_, ?_⟩
                rotate_left
                · skip
                  go_simp
                  with_reducible rfl
                refine hK _ ?_
                clear hK K
                (try simp only [Act.put, List.setIfInBounds_toArray, List.set_cons_zero, List.set_cons_succ])
                refine wpQuiet_step_h hlq ?_
                clear hlq lq
                intro K lq hlq hK
                refine wanted_go (by rfl) ?_
                refine ⟨?_, fun W hW => ?_, ?_⟩
                rotate_left
                · skip
                  go_simp
                  with_reducible rfl
                refine hK _ ?_
                clear hK K
                (try simp only [Act.put, List.setIfInBounds_toArray, List.set_cons_zero, List.set_cons_succ])
                refine wpQuiet_step_h hlq ?_
                clear hlq lq
                intro K lq hlq hK
                refine wanted_go (by rfl) ?_
                refine ⟨?_, fun W hW => ?_, ?_⟩
                rotate_left
                · skip
                  go_simp
                  with_reducible rfl
                refine hK _ ?_
                clear hK K
                (try simp only [Act.put, List.setIfInBounds_toArray, List.set_cons_zero, List.set_cons_succ])
                refine wpQuiet_step_h hlq ?_
                clear hlq lq
                intro K lq hlq hK
                refine wanted_go (by rfl) ?_
                refine ⟨?_, fun W hW => ?_, ?_⟩
                rotate_left
                · skip
                  go_simp
                  with_reducible rfl
                refine hK _ ?_
                clear hK K
                (try simp only [Act.put, List.setIfInBounds_toArray, List.set_cons_zero, List.set_cons_succ])
                refine wpQuiet_step_h hlq ?_
                clear hlq lq
                intro K lq hlq hK
                refine wanted_go (by rfl) ?_
                refine ⟨.int .u8 y, fun W hW => ?_, ?_⟩
                · skip
                  rw [← hy2.out]; exact quiet_load 5 _ rfl rfl (ldAi (i := 2 * j + 1) (by omega) (hW.all.get 0 (x := (w.heap.size, oA a)) rfl) Ha.out)
                refine hK _ ?_
                clear hK K
                (try simp only [Act.put, List.setIfInBounds_toArray, List.set_cons_zero, List.set_cons_succ])
                refine wpQuiet_step_h hlq ?_
                clear hlq lq
                intro K lq hlq hK
                refine wanted_go (by rfl) ?_
                refine ⟨?_, fun W hW => ?_, ?_⟩
                rotate_left
                · skip
                  go_simp
                  with_reducible rfl
                refine hK _ ?_
                clear hK K
                (try simp only [Act.put, List.setIfInBounds_toArray, List.set_cons_zero, List.set_cons_succ])
                refine wpQuiet_step_h hlq ?_
                clear hlq lq
                intro K lq hlq hK
                refine wanted_go (by rfl) ?_
                refine ⟨?_, fun W hW => ?_, ?_⟩
                rotate_left
                · skip
                  go_simp
                  with_reducible rfl
                refine hK _ ?_
                clear hK K
                (try simp only [Act.put, List.setIfInBounds_toArray, List.set_cons_zero, List.set_cons_succ])
                refine wpQuiet_step_h hlq ?_
                clear hlq lq
                intro K lq hlq hK
                refine wanted_go (by rfl) ?_
                refine ⟨.string ⟨(hexI (x * 256 + y)).toArray⟩, fun W hW => ?_, ?_⟩
                · go_simp
                  exact (hexes_call (by omega) (by omega)).mono fun e W2 hc2 => ⟨hc2.1, hW.go hc2.2⟩
                refine hK _ ?_
                clear hK K
                (try simp only [Act.put, List.setIfInBounds_toArray, List.set_cons_zero, List.set_cons_succ])
                refine wpQuiet_step_h hlq ?_
                clear hlq lq
                intro K lq hlq hK
                refine wanted_go (by rfl) ?_
                refine ⟨.string (O ++ ⟨(hexI (x * 256 + y)).toArray⟩), fun W hW => ?_, ?_⟩
                · skip
                  exact quiet_add rfl rfl rfl (ba_add W _ _ hsum.out)
                refine hK _ ?_
                clear hK K
                (try simp only [Act.put, List.setIfInBounds_toArray, List.set_cons_zero, List.set_cons_succ])
                refine wpQuiet_step_h hlq ?_
                clear hlq lq
                intro K lq hlq hK
                refine wanted_go (by rfl) ?_
                refine ⟨?_, fun W hW => ?_, ?_⟩
                rotate_left
                · skip
                  go_simp
                  with_reducible rfl
                refine hK _ ?_
                clear hK K
                (try simp only [Act.put, List.setIfInBounds_toArray, List.set_cons_zero, List.set_cons_succ])
                refine wpQuiet_nil_h hlq ?_
                clear hlq lq bx
                intro V1 hV2
                go_wp2_with fail
                refine ⟨⟨j + 1, _, by omega, nxt, by congr 1, rfl, kk, hV2⟩, by simp [intOf]; omega⟩
              · have hb : ((O[mm]'(by omega)).toNat : Int) ≠ 58 := by
                  rw [hzb]; intro e; exact hz58 (UInt8.toNat_inj.1 (by have : (58 : UInt8).toNat = 58 := rfl; omega))
                have hb2 : (((O[mm]'(by omega)).toNat : Int) != 58) = true := by simpa using hb
                have kk := Lib.hid (key.out (O ++ (⟨#[58]⟩ : ByteArray)) (by
                  rw [hs, hO.out]
                  show (⟨(outAt G (lo, hi2) j).toArray⟩ : ByteArray) ++ ⟨#[58]⟩ = _
                  apply ByteArray.ext; simp))
                have hsum : (O ++ (⟨#[58]⟩ : ByteArray)).size + (⟨(hexI (x * 256 + y)).toArray⟩ : ByteArray).size ≤ 9223372036854775807 := by
                  have h1 : (O ++ (⟨#[58]⟩ : ByteArray)).size = O.size + 1 := by rw [ByteArray.size_append]; rfl
                  omega
                replace hhs := Lib.hid hhs
                replace hsum := Lib.hid hsum
                clear hs key hb hzb hz hzl
                go_wp2_with fail
                refine wp_region_C (C := Bz w [(w.heap.size, oA a)]) (by kernel_rfl) (by kernel_rfl) (bx.drew) ?_
                refine wpQuiet_hide ?_
                intro lq hlq
                refine wpQuiet_step_h hlq ?_
                clear hlq lq
                intro K lq hlq hK
                refine wanted_go (by rfl) ?_
                refine ⟨?_, fun W hW => ?_, ?_⟩
                rotate_left
                · skip
                  go_simp
                  with_reducible rfl
                refine hK _ ?_
                clear hK K
                (try simp only [Act.put, List.setIfInBounds_toArray, List.set_cons_zero, List.set_cons_succ])
                refine wpQuiet_step_h hlq ?_
                clear hlq lq
                intro K lq hlq hK
                refine wanted_go (by rfl) ?_
                refine ⟨?_, fun W hW => ?_, ?_⟩
                rotate_left
                · skip
                  go_simp
                  with_reducible rfl
                refine hK _ ?_
                clear hK K
                (try simp only [Act.put, List.setIfInBounds_toArray, List.set_cons_zero, List.set_cons_succ])
                refine wpQuiet_step_h hlq ?_
                clear hlq lq
                intro K lq hlq hK
                refine wanted_go (by rfl) ?_
                refine ⟨?_, fun W hW => ?_, ?_⟩
                rotate_left
                · skip
                  go_simp
                  with_reducible rfl
                refine hK _ ?_
                clear hK K
                (try simp only [Act.put, List.setIfInBounds_toArray, List.set_cons_zero, List.set_cons_succ])
                refine wpQuiet_step_h hlq ?_
                clear hlq lq
                intro K lq hlq hK
                refine wanted_go (by rfl) ?_
                refine ⟨?_, fun W hW => ?_, ?_⟩
                rotate_left
                · skip
                  go_simp
                  with_reducible rfl
                refine hK _ ?_
                clear hK K
                (try simp only [Act.put, List.setIfInBounds_toArray, List.set_cons_zero, List.set_cons_succ])
                refine wpQuiet_step_h hlq ?_
                clear hlq lq
                intro K lq hlq hK
                refine wanted_go (by rfl) ?_
                refine ⟨.int .u8 x, fun W hW => ?_, ?_⟩
                · skip
                  rw [← hx2.out]; exact quiet_load 5 _ rfl rfl (ldAi (i := 2 * j) (by omega) (hW.all.get 0 (x := (w.heap.size, oA a)) rfl) Ha.out)
                refine hK _ ?_
                clear hK K
                (try simp only [Act.put, List.setIfInBounds_toArray, List.set_cons_zero, List.set_cons_succ])
                refine wpQuiet_step_h hlq ?_
                clear hlq lq
                intro K lq hlq hK
                refine wanted_go (by rfl) ?_
                refine ⟨?_, fun W hW => ?_, ?_⟩
                rotate_left
                · skip
                  go_simp
                  with_reducible rfl
                refine hK _ ?_
                clear hK K
                (try simp only [Act.put, List.setIfInBounds_toArray, List.set_cons_zero, List.set_cons_succ])
                refine wpQuiet_step_h hlq ?_
                clear hlq lq
                intro K lq hlq hK
                refine wanted_go (by rfl) ?_
                refine ⟨?_, fun W hW => ?_, ?_⟩
                rotate_left
                · skip
                  go_simp
                  with_reducible rfl
                refine hK _ ?_
                clear hK K
                (try simp only [Act.put, List.setIfInBounds_toArray, List.set_cons_zero, List.set_cons_succ])
                refine wpQuiet_step_h hlq ?_
                clear hlq lq
                intro K lq hlq hK
                refine wanted_go (by rfl) ?_
                refine ⟨?_, fun W hW => ?_, ?_⟩
                rotate_left
                · skip
                  go_simp
                  with_reducible rfl
                refine hK _ ?_
                clear hK K
                (try simp only [Act.put, List.setIfInBounds_toArray, List.set_cons_zero, List.set_cons_succ])
                refine wpQuiet_step_h hlq ?_
                clear hlq lq
                intro K lq hlq hK
                refine wanted_go (by rfl) ?_
                refine ⟨?_, fun W hW => ?_, ?_⟩
                rotate_left
                · skip
                  go_simp
                  with_reducible rfl
                refine hK _ ?_
                clear hK K
                (try simp only [Act.put, List.setIfInBounds_toArray, List.set_cons_zero, List.set_cons_succ])
                refine wpQuiet_step_h hlq ?_
                clear hlq lq
                intro K lq hlq hK
                refine wanted_go (by rfl) ?_
                refine ⟨?_, fun W hW => ?_, ?_⟩
                rotate_left
                · skip
                  go_simp
                  with_reducible rfl
                refine hK _ ?_
                clear hK K
                (try simp only [Act.put, List.setIfInBounds_toArray, List.set_cons_zero, List.set_cons_succ])
                refine wpQuiet_step_h hlq ?_
                clear hlq lq
                intro K lq hlq hK
                refine wanted_go (by rfl) ?_
                refine ⟨?_, fun W hW => ?_, ?_⟩
                rotate_left
                · skip
                  go_simp
                  with_reducible rfl
                refine hK _ ?_
                clear hK K
                (try simp only [Act.put, List.setIfInBounds_toArray, List.set_cons_zero, List.set_cons_succ])
                refine wpQuiet_step_h hlq ?_
                clear hlq lq
                intro K lq hlq hK
                refine wanted_go (by rfl) ?_
                refine ⟨.int .u8 y, fun W hW => ?_, ?_⟩
                · skip
                  rw [← hy2.out]; exact quiet_load 5 _ rfl rfl (ldAi (i := 2 * j + 1) (by omega) (hW.all.get 0 (x := (w.heap.size, oA a)) rfl) Ha.out)
                refine hK _ ?_
                clear hK K
                (try simp only [Act.put, List.setIfInBounds_toArray, List.set_cons_zero, List.set_cons_succ])
                refine wpQuiet_step_h hlq ?_
                clear hlq lq
                intro K lq hlq hK
                refine wanted_go (by rfl) ?_
                refine ⟨?_, fun W hW => ?_, ?_⟩
                rotate_left
                · skip
                  go_simp
                  with_reducible rfl
                refine hK _ ?_
                clear hK K
                (try simp only [Act.put, List.setIfInBounds_toArray, List.set_cons_zero, List.set_cons_succ])
                refine wpQuiet_step_h hlq ?_
                clear hlq lq
                intro K lq hlq hK
                refine wanted_go (by rfl) ?_
                refine ⟨?_, fun W hW => ?_, ?_⟩
                rotate_left
                · skip
                  go_simp
                  with_reducible rfl
                refine hK _ ?_
                clear hK K
                (try simp only [Act.put, List.setIfInBounds_toArray, List.set_cons_zero, List.set_cons_succ])
                refine wpQuiet_step_h hlq ?_
                clear hlq lq
                intro K lq hlq hK
                refine wanted_go (by rfl) ?_
                refine ⟨.string ⟨(hexI (x * 256 + y)).toArray⟩, fun W hW => ?_, ?_⟩
                · go_simp
                  exact (hexes_call (by omega) (by omega)).mono fun e W2 hc2 => ⟨hc2.1, hW.go hc2.2⟩
                refine hK _ ?_
                clear hK K
                (try simp only [Act.put, List.setIfInBounds_toArray, List.set_cons_zero, List.set_cons_succ])
                refine wpQuiet_step_h hlq ?_
                clear hlq lq
                intro K lq hlq hK
                refine wanted_go (by rfl) ?_
                refine ⟨.string ((O ++ (⟨#[58]⟩ : ByteArray)) ++ ⟨(hexI (x * 256 + y)).toArray⟩), fun W hW => ?_, ?_⟩
                · skip
                  exact quiet_add rfl rfl rfl (ba_add W _ _ hsum.out)
                refine hK _ ?_
                clear hK K
                (try simp only [Act.put, List.setIfInBounds_toArray, List.set_cons_zero, List.set_cons_succ])
                refine wpQuiet_step_h hlq ?_
                clear hlq lq
                intro K lq hlq hK
                refine wanted_go (by rfl) ?_
                refine ⟨?_, fun W hW => ?_, ?_⟩
                rotate_left
                · skip
                  go_simp
                  with_reducible rfl
                refine hK _ ?_
                clear hK K
                (try simp only [Act.put, List.setIfInBounds_toArray, List.set_cons_zero, List.set_cons_succ])
                refine wpQuiet_nil_h hlq ?_
                clear hlq lq bx
                intro V1 hV2
                go_wp2_with fail
                refine ⟨⟨j + 1, _, by omega, nxt, by congr 1, rfl, kk, hV2⟩, by simp [intOf]; omega⟩
        · obtain rfl : j = 8 := by omega
          rw [hO.out, hall.out]
          go_wp2
          go_ret
          exact ⟨rfl, bx.bel⟩
end Go.Proofs.YtnljjlaececnkaaGreatDoor
/-
  Print of the document. Condition: an address is sixteen bytes.
-/
namespace Go.Proofs.YtnljjlaececnkaaGreatDoor
open Go.RowKit
set_option linter.unusedVariables false
set_option linter.unusedSimpArgs false
set_option maxRecDepth 100000 in
set_option maxHeartbeats 800000 in
theorem rprint4_any {w : World} {a : List Int} (ha : isA a) (h4 : fam a = 4) : Calls Tryz.prog 35 #[vA a] w fun e w' => e = .returned (.string ⟨(dottedS a).toArray⟩) ∧ Below w.heap.size w w' := by
  have B := ((Bz.start w).alloc (oA a) rfl : Bz w [(w.heap.size, oA a)] _)
  have Ha := Lib.hid ha
  have hf : ∀ {W : World}, Calls Tryz.prog 33 #[vA a] W fun e w' => e = .returned (.int .i64 4) ∧ Below W.heap.size W w' := (rfam_any ha).mono fun e w' h => ⟨by rw [h.1, h4], h.2⟩
  clear ha h4
  unfold vA
  go_enter Tryz.func35, Tryz.ntmps35
  go_wp2_with (refine wpList_quiet (C := Bz w [(w.heap.size, oA a)]) 3 (by rfl) B ?_)
  refine wpQuiet_hide ?_
  intro lq hlq
  refine wpQuiet_step_h hlq ?_
  clear hlq lq
  intro K lq hlq hK
  refine wanted_go (by rfl) ?_
  refine ⟨vA a, fun W hW => ?_, ?_⟩
  · skip
    exact quiet_load 42 _ rfl rfl (ldA (hW.all.get 0 (x := (w.heap.size, oA a)) rfl) Ha.out)
  refine hK _ ?_
  clear hK K
  (try simp only [Act.put, List.setIfInBounds_toArray, List.set_cons_zero, List.set_cons_succ])
  refine wpQuiet_step_h hlq ?_
  clear hlq lq
  intro K lq hlq hK
  refine wanted_go (by rfl) ?_
  refine ⟨.int .i64 4, fun W hW => ?_, ?_⟩
  · go_simp
    exact (hf).mono fun e W2 hc2 => ⟨hc2.1, hW.go hc2.2⟩
  refine hK _ ?_
  clear hK K
  (try simp only [Act.put, List.setIfInBounds_toArray, List.set_cons_zero, List.set_cons_succ])
  refine wpQuiet_step_h hlq ?_
  clear hlq lq
  intro K lq hlq hK
  refine wanted_go (by rfl) ?_
  refine ⟨?_, fun W hW => ?_, ?_⟩
  rotate_left
  · skip
    go_simp
    with_reducible rfl
  refine hK _ ?_
  clear hK K
  (try simp only [Act.put, List.setIfInBounds_toArray, List.set_cons_zero, List.set_cons_succ])
  refine wpQuiet_nil_h hlq ?_
  clear hlq lq B
  intro V1 hV2
  go_wp2_with (refine wpList_quiet (C := Bz w [(w.heap.size, oA a)]) 3 (by rfl) hV2 ?_)
  refine wpQuiet_hide ?_
  intro lq hlq
  refine wpQuiet_step_h hlq ?_
  clear hlq lq
  intro K lq hlq hK
  refine wanted_go (by rfl) ?_
  refine ⟨vA a, fun W hW => ?_, ?_⟩
  · skip
    exact quiet_load 42 _ rfl rfl (ldA (hW.all.get 0 (x := (w.heap.size, oA a)) rfl) Ha.out)
  refine hK _ ?_
  clear hK K
  (try simp only [Act.put, List.setIfInBounds_toArray, List.set_cons_zero, List.set_cons_succ])
  refine wpQuiet_step_h hlq ?_
  clear hlq lq
  intro K lq hlq hK
  refine wanted_go (by rfl) ?_
  refine ⟨.string ⟨(dottedS a).toArray⟩, fun W hW => ?_, ?_⟩
  · go_simp
    exact (fours_any Ha.out).mono fun e W2 hc2 => ⟨hc2.1, hW.go hc2.2⟩
  refine hK _ ?_
  clear hK K
  (try simp only [Act.put, List.setIfInBounds_toArray, List.set_cons_zero, List.set_cons_succ])
  refine wpQuiet_step_h hlq ?_
  clear hlq lq
  intro K lq hlq hK
  refine wanted_go (by rfl) ?_
  refine ⟨?_, fun W hW => ?_, ?_⟩
  rotate_left
  · skip
    go_simp
    with_reducible rfl
  refine hK _ ?_
  clear hK K
  (try simp only [Act.put, List.setIfInBounds_toArray, List.set_cons_zero, List.set_cons_succ])
  refine wpQuiet_nil_h hlq ?_
  clear hlq lq hV2
  intro V3 hV4
  go_wp2_with fail
  go_ret
  exact ⟨rfl, hV4.bel⟩
set_option maxRecDepth 100000 in
set_option maxHeartbeats 800000 in
theorem rprint6_any {w : World} {a : List Int} (ha : isA a) (h6 : fam a = 6) : Calls Tryz.prog 35 #[vA a] w fun e w' => e = .returned (.string ⟨(groupedS a).toArray⟩) ∧ Below w.heap.size w w' := by
  have B := ((Bz.start w).alloc (oA a) rfl : Bz w [(w.heap.size, oA a)] _)
  have Ha := Lib.hid ha
  have hf : ∀ {W : World}, Calls Tryz.prog 33 #[vA a] W fun e w' => e = .returned (.int .i64 6) ∧ Below W.heap.size W w' := (rfam_any ha).mono fun e w' h => ⟨by rw [h.1, h6], h.2⟩
  clear ha h6
  unfold vA
  go_enter Tryz.func35, Tryz.ntmps35
  go_wp2_with (refine wpList_quiet (C := Bz w [(w.heap.size, oA a)]) 3 (by rfl) B ?_)
  refine wpQuiet_hide ?_
  intro lq hlq
  refine wpQuiet_step_h hlq ?_
  clear hlq lq
  intro K lq hlq hK
  refine wanted_go (by rfl) ?_
  refine ⟨vA a, fun W hW => ?_, ?_⟩
  · skip
    exact quiet_load 42 _ rfl rfl (ldA (hW.all.get 0 (x := (w.heap.size, oA a)) rfl) Ha.out)
  refine hK _ ?_
  clear hK K
  (try simp only [Act.put, List.setIfInBounds_toArray, List.set_cons_zero, List.set_cons_succ])
  refine wpQuiet_step_h hlq ?_
  clear hlq lq
  intro K lq hlq hK
  refine wanted_go (by rfl) ?_
  refine ⟨.int .i64 6, fun W hW => ?_, ?_⟩
  · go_simp
    exact (hf).mono fun e W2 hc2 => ⟨hc2.1, hW.go hc2.2⟩
  refine hK _ ?_
  clear hK K
  (try simp only [Act.put, List.setIfInBounds_toArray, List.set_cons_zero, List.set_cons_succ])
  refine wpQuiet_step_h hlq ?_
  clear hlq lq
  intro K lq hlq hK
  refine wanted_go (by rfl) ?_
  refine ⟨?_, fun W hW => ?_, ?_⟩
  rotate_left
  · skip
    go_simp
    with_reducible rfl
  refine hK _ ?_
  clear hK K
  (try simp only [Act.put, List.setIfInBounds_toArray, List.set_cons_zero, List.set_cons_succ])
  refine wpQuiet_nil_h hlq ?_
  clear hlq lq B
  intro V1 hV2
  go_wp2_with (refine wpList_quiet (C := Bz w [(w.heap.size, oA a)]) 3 (by rfl) hV2 ?_)
  refine wpQuiet_hide ?_
  intro lq hlq
  refine wpQuiet_step_h hlq ?_
  clear hlq lq
  intro K lq hlq hK
  refine wanted_go (by rfl) ?_
  refine ⟨vA a, fun W hW => ?_, ?_⟩
  · skip
    exact quiet_load 42 _ rfl rfl (ldA (hW.all.get 0 (x := (w.heap.size, oA a)) rfl) Ha.out)
  refine hK _ ?_
  clear hK K
  (try simp only [Act.put, List.setIfInBounds_toArray, List.set_cons_zero, List.set_cons_succ])
  refine wpQuiet_step_h hlq ?_
  clear hlq lq
  intro K lq hlq hK
  refine wanted_go (by rfl) ?_
  refine ⟨.string ⟨(groupedS a).toArray⟩, fun W hW => ?_, ?_⟩
  · go_simp
    exact (sixes_any Ha.out).mono fun e W2 hc2 => ⟨hc2.1, hW.go hc2.2⟩
  refine hK _ ?_
  clear hK K
  (try simp only [Act.put, List.setIfInBounds_toArray, List.set_cons_zero, List.set_cons_succ])
  refine wpQuiet_step_h hlq ?_
  clear hlq lq
  intro K lq hlq hK
  refine wanted_go (by rfl) ?_
  refine ⟨?_, fun W hW => ?_, ?_⟩
  rotate_left
  · skip
    go_simp
    with_reducible rfl
  refine hK _ ?_
  clear hK K
  (try simp only [Act.put, List.setIfInBounds_toArray, List.set_cons_zero, List.set_cons_succ])
  refine wpQuiet_nil_h hlq ?_
  clear hlq lq hV2
  intro V3 hV4
  go_wp2_with fail
  go_ret
  exact ⟨rfl, hV4.bel⟩
/-- Print. -/
theorem rprint_any {w : World} {a : List Int} (ha : isA a) : Calls Tryz.prog 35 #[vA a] w fun e w' => e = .returned (.string ⟨(printS a).toArray⟩) ∧ Below w.heap.size w w' := by
  unfold printS
  rcases fam_or a with h | h
  · rw [if_pos h]; exact rprint4_any ha h
  · rw [if_neg (by omega)]; exact rprint6_any ha h
end Go.Proofs.YtnljjlaececnkaaGreatDoor
/-
  The walk of AddrTexts. Condition: the variables hold what their initialisers laid.
-/
namespace Go.Proofs.YtnljjlaececnkaaGreatDoor
open Go.RowKit
set_option linter.unusedVariables false
set_option linter.unusedSimpArgs false
set_option maxRecDepth 100000 in
set_option maxHeartbeats 1600000 in
theorem texts_long {s : ByteArray} {a : List Int} (hs : 5000 < s.size) (ha : isA a) {w : World} (E : Env w) : Calls Tryz.prog 6 #[.string s, vA a] w fun e w' => e = .returned (.bool true) ∧ Below w.heap.size w w' := by
  have B := ((Bz.start w).alloc (oA a) rfl : Bz w [(w.heap.size, oA a)] _)
  have E1 := B.env E
  have Ha := Lib.hid ha
  clear ha
  unfold vA
  go_enter Tryz.func6, Tryz.ntmps6
  go_wp2_with (go_at_call 28; refine (live02_any E1).mono ?_; rintro e w1 ⟨rfl, bel⟩)
  go_ret
  exact ⟨rfl, (B.go bel).bel⟩
set_option maxRecDepth 100000 in
set_option maxHeartbeats 1600000 in
theorem texts_run {s : ByteArray} {a x : List Int} {e : Int} (hs : s.size ≤ 5000) (ha : isA a) (hx : isA x) (hp : okA (parseS s) = x) (he : (if (parseS s).isSome then (0 : Int) else 20) = e) {f : Int} (hf : fam a = f) {t : List UInt8} (ht : printS a = t) {w : World} (E : Env w) : Calls Tryz.prog 6 #[.string s, vA a] w fun e w' => e = .returned (.bool true) ∧ Below w.heap.size w w' := by
  have B := ((Bz.start w).alloc (oA a) rfl : Bz w [(w.heap.size, oA a)] _)
  have Ha := Lib.hid ha
  have Hx := Lib.hid hx
  have c1 : ∀ {W : World}, Env W → Calls Tryz.prog 29 #[.string s] W fun e' w' => e' = .returned (.tuple #[vA x, .int .i64 e]) ∧ Below W.heap.size W w' := fun E => (parse_any E (by omega)).mono fun e' w' h => ⟨by have := h.1; unfold ParseR at this; rw [this, hp, he], h.2⟩
  have c2 : ∀ {W : World}, Calls Tryz.prog 30 #[.string s] W fun e' w' => e' = .returned (.tuple #[vA x, .int .i64 e]) ∧ Below W.heap.size W w' := (rparse_any (by omega)).mono fun e' w' h => ⟨by have := h.1; unfold ParseR at this; rw [this, hp, he], h.2⟩
  have c3 : ∀ {W : World}, Calls Tryz.prog 32 #[vA a] W fun e w' => e = .returned (.int .i64 f) ∧ Below W.heap.size W w' := (fam_any ha).mono fun e w' h' => ⟨by rw [h'.1, hf], h'.2⟩
  have c4 : ∀ {W : World}, Calls Tryz.prog 33 #[vA a] W fun e w' => e = .returned (.int .i64 f) ∧ Below W.heap.size W w' := (rfam_any ha).mono fun e w' h' => ⟨by rw [h'.1, hf], h'.2⟩
  have c5 : ∀ {W : World}, Env W → Calls Tryz.prog 34 #[vA a] W fun e w' => e = .returned (.string ⟨t.toArray⟩) ∧ Below W.heap.size W w' := fun E => (print_any E ha).mono fun e w' h' => ⟨by rw [h'.1, ht], h'.2⟩
  have c6 : ∀ {W : World}, Calls Tryz.prog 35 #[vA a] W fun e w' => e = .returned (.string ⟨t.toArray⟩) ∧ Below W.heap.size W w' := (rprint_any ha).mono fun e w' h' => ⟨by rw [h'.1, ht], h'.2⟩
  have hz := fun W => eql_A W hx hx
  rw [show decide (x = x) = true from decide_eq_true rfl] at hz
  clear ha hx hp he hf ht
  unfold vA
  go_enter Tryz.func6, Tryz.ntmps6
  go_wp2_with (refine wpList_quiet_take (C := Bz w [(w.heap.size, oA a)]) 7 4 (by rfl) B ?_)
  (try simp only [List.take_succ_cons, List.take_zero, List.drop_succ_cons, List.drop_zero])
  refine wpQuiet_hide ?_
  intro lq hlq
  refine wpQuiet_step_h hlq ?_
  clear hlq lq
  intro K lq hlq hK
  refine wanted_go (by rfl) ?_
  refine ⟨.tuple #[vA x, .int .i64 e], fun W hW => ?_, ?_⟩
  · go_simp
    have E' := hW.env E
    exact (c1 E').mono fun e W2 hc2 => ⟨hc2.1, hW.go hc2.2⟩
  refine hK _ ?_
  clear hK K
  (try simp only [Act.put, List.setIfInBounds_toArray, List.set_cons_zero, List.set_cons_succ])
  refine wpQuiet_step_h hlq ?_
  clear hlq lq
  intro K lq hlq hK
  refine wanted_go (by rfl) ?_
  refine ⟨?_, fun W hW => ?_, ?_⟩
  rotate_left
  · skip
    go_simp
    with_reducible rfl
  refine hK _ ?_
  clear hK K
  (try simp only [Act.put, List.setIfInBounds_toArray, List.set_cons_zero, List.set_cons_succ])
  refine wpQuiet_step_h hlq ?_
  clear hlq lq
  intro K lq hlq hK
  refine wanted_go (by rfl) ?_
  refine ⟨?_, fun W hW => ?_, ?_⟩
  rotate_left
  · skip
    go_simp
    with_reducible rfl
  refine hK _ ?_
  clear hK K
  (try simp only [Act.put, List.setIfInBounds_toArray, List.set_cons_zero, List.set_cons_succ])
  refine wpQuiet_step_h hlq ?_
  clear hlq lq
  intro K lq hlq hK
  refine wanted_go (by rfl) ?_
  refine ⟨?_, fun W hW => ?_, ?_⟩
  rotate_left
  · skip
    go_simp
    with_reducible rfl
  refine hK _ ?_
  clear hK K
  (try simp only [Act.put, List.setIfInBounds_toArray, List.set_cons_zero, List.set_cons_succ])
  refine wpQuiet_nil_h hlq ?_
  clear hlq lq B
  intro V1 hV2
  refine wpList_new rfl rfl rfl rfl z42 rfl (by rfl) (by rfl) (info42 Hx.out) (sizeA' Hx.out) (numsA_one _) ?_
  (try simp only [Act.put, List.setIfInBounds_toArray, List.set_cons_zero, List.set_cons_succ])
  have hB3 : Bz w [(V1.heap.size, oA x), (w.heap.size, oA a)] (V1.alloc (oA x)) := hV2.alloc (oA x) rfl
  clear hV2
  refine wpList_quiet (C := Bz w [(V1.heap.size, oA x), (w.heap.size, oA a)]) 1 (by rfl) hB3 ?_
  refine wpQuiet_hide ?_
  intro lq hlq
  refine wpQuiet_step_h hlq ?_
  clear hlq lq
  intro K lq hlq hK
  refine wanted_go (by rfl) ?_
  refine ⟨?_, fun W hW => ?_, ?_⟩
  rotate_left
  · skip
    go_simp
    with_reducible rfl
  refine hK _ ?_
  clear hK K
  (try simp only [Act.put, List.setIfInBounds_toArray, List.set_cons_zero, List.set_cons_succ])
  refine wpQuiet_nil_h hlq ?_
  clear hlq lq hB3
  intro V4 hV5
  go_wp2_with (refine wpList_quiet_take (C := Bz w [(V1.heap.size, oA x), (w.heap.size, oA a)]) 7 4 (by rfl) hV5 ?_)
  (try simp only [List.take_succ_cons, List.take_zero, List.drop_succ_cons, List.drop_zero])
  refine wpQuiet_hide ?_
  intro lq hlq
  refine wpQuiet_step_h hlq ?_
  clear hlq lq
  intro K lq hlq hK
  refine wanted_go (by rfl) ?_
  refine ⟨.tuple #[vA x, .int .i64 e], fun W hW => ?_, ?_⟩
  · go_simp
    exact (c2).mono fun e W2 hc2 => ⟨hc2.1, hW.go hc2.2⟩
  refine hK _ ?_
  clear hK K
  (try simp only [Act.put, List.setIfInBounds_toArray, List.set_cons_zero, List.set_cons_succ])
  refine wpQuiet_step_h hlq ?_
  clear hlq lq
  intro K lq hlq hK
  refine wanted_go (by rfl) ?_
  refine ⟨?_, fun W hW => ?_, ?_⟩
  rotate_left
  · skip
    go_simp
    with_reducible rfl
  refine hK _ ?_
  clear hK K
  (try simp only [Act.put, List.setIfInBounds_toArray, List.set_cons_zero, List.set_cons_succ])
  refine wpQuiet_step_h hlq ?_
  clear hlq lq
  intro K lq hlq hK
  refine wanted_go (by rfl) ?_
  refine ⟨?_, fun W hW => ?_, ?_⟩
  rotate_left
  · skip
    go_simp
    with_reducible rfl
  refine hK _ ?_
  clear hK K
  (try simp only [Act.put, List.setIfInBounds_toArray, List.set_cons_zero, List.set_cons_succ])
  refine wpQuiet_step_h hlq ?_
  clear hlq lq
  intro K lq hlq hK
  refine wanted_go (by rfl) ?_
  refine ⟨?_, fun W hW => ?_, ?_⟩
  rotate_left
  · skip
    go_simp
    with_reducible rfl
  refine hK _ ?_
  clear hK K
  (try simp only [Act.put, List.setIfInBounds_toArray, List.set_cons_zero, List.set_cons_succ])
  refine wpQuiet_nil_h hlq ?_
  clear hlq lq hV5
  intro V6 hV7
  refine wpList_new rfl rfl rfl rfl z42 rfl (by rfl) (by rfl) (info42 Hx.out) (sizeA' Hx.out) (numsA_one _) ?_
  (try simp only [Act.put, List.setIfInBounds_toArray, List.set_cons_zero, List.set_cons_succ])
  have hB8 : Bz w [(V6.heap.size, oA x), (V1.heap.size, oA x), (w.heap.size, oA a)] (V6.alloc (oA x)) := hV7.alloc (oA x) rfl
  clear hV7
  refine wpList_quiet (C := Bz w [(V6.heap.size, oA x), (V1.heap.size, oA x), (w.heap.size, oA a)]) 1 (by rfl) hB8 ?_
  refine wpQuiet_hide ?_
  intro lq hlq
  refine wpQuiet_step_h hlq ?_
  clear hlq lq
  intro K lq hlq hK
  refine wanted_go (by rfl) ?_
  refine ⟨?_, fun W hW => ?_, ?_⟩
  rotate_left
  · skip
    go_simp
    with_reducible rfl
  refine hK _ ?_
  clear hK K
  (try simp only [Act.put, List.setIfInBounds_toArray, List.set_cons_zero, List.set_cons_succ])
  refine wpQuiet_nil_h hlq ?_
  clear hlq lq hB8
  intro V9 hV10
  go_wp2_with fail
  refine wp_region_C (C := Bz w [(V6.heap.size, oA x), (V1.heap.size, oA x), (w.heap.size, oA a)]) (by kernel_rfl) (by kernel_rfl) (hV10.drew) ?_
  refine wpQuiet_hide ?_
  intro lq hlq
  refine wpQuiet_step_h hlq ?_
  clear hlq lq
  intro K lq hlq hK
  refine wanted_go (by rfl) ?_
  refine ⟨vA x, fun W hW => ?_, ?_⟩
  · skip
    exact quiet_load 42 _ rfl rfl (ldA (hW.all.get 1 (x := (V1.heap.size, oA x)) rfl) Hx.out)
  refine hK _ ?_
  clear hK K
  (try simp only [Act.put, List.setIfInBounds_toArray, List.set_cons_zero, List.set_cons_succ])
  refine wpQuiet_step_h hlq ?_
  clear hlq lq
  intro K lq hlq hK
  refine wanted_go (by rfl) ?_
  refine ⟨vA x, fun W hW => ?_, ?_⟩
  · skip
    exact quiet_load 42 _ rfl rfl (ldA (hW.all.get 0 (x := (V6.heap.size, oA x)) rfl) Hx.out)
  refine hK _ ?_
  clear hK K
  (try simp only [Act.put, List.setIfInBounds_toArray, List.set_cons_zero, List.set_cons_succ])
  refine wpQuiet_step_h hlq ?_
  clear hlq lq
  intro K lq hlq hK
  refine wanted_go (by rfl) ?_
  refine ⟨.bool true, fun W hW => ?_, ?_⟩
  · skip
    exact quiet_eq (.inl rfl) (by rfl) (by rfl) (by rfl) guard42 (hz W)
  refine hK _ ?_
  clear hK K
  (try simp only [Act.put, List.setIfInBounds_toArray, List.set_cons_zero, List.set_cons_succ])
  refine wpQuiet_step_h hlq ?_
  clear hlq lq
  intro K lq hlq hK
  refine wanted_go (by rfl) ?_
  refine ⟨?_, fun W hW => ?_, ?_⟩
  rotate_left
  · skip
    go_simp
    with_reducible rfl
  refine hK _ ?_
  clear hK K
  (try simp only [Act.put, List.setIfInBounds_toArray, List.set_cons_zero, List.set_cons_succ])
  refine wpQuiet_step_h hlq ?_
  clear hlq lq
  intro K lq hlq hK
  refine wanted_go (by rfl) ?_
  refine ⟨?_, fun W hW => ?_, ?_⟩
  rotate_left
  · skip
    go_simp
    with_reducible rfl
  refine hK _ ?_
  clear hK K
  (try simp only [Act.put, List.setIfInBounds_toArray, List.set_cons_zero, List.set_cons_succ])
  refine wpQuiet_step_h hlq ?_
  clear hlq lq
  intro K lq hlq hK
  refine wanted_go (by rfl) ?_
  refine ⟨.int .i64 e, fun W hW => ?_, ?_⟩
  · go_simp
    have E' := hW.env E
    exact (num_lit _).mono fun e W2 hc2 => ⟨hc2.1, hW.go hc2.2⟩
  refine hK _ ?_
  clear hK K
  (try simp only [Act.put, List.setIfInBounds_toArray, List.set_cons_zero, List.set_cons_succ])
  refine wpQuiet_step_h hlq ?_
  clear hlq lq
  intro K lq hlq hK
  refine wanted_go (by rfl) ?_
  refine ⟨?_, fun W hW => ?_, ?_⟩
  rotate_left
  · skip
    go_simp
    with_reducible rfl
  refine hK _ ?_
  clear hK K
  (try simp only [Act.put, List.setIfInBounds_toArray, List.set_cons_zero, List.set_cons_succ])
  refine wpQuiet_step_h hlq ?_
  clear hlq lq
  intro K lq hlq hK
  refine wanted_go (by rfl) ?_
  refine ⟨?_, fun W hW => ?_, ?_⟩
  rotate_left
  · skip
    go_simp
    with_reducible rfl
  refine hK _ ?_
  clear hK K
  (try simp only [Act.put, List.setIfInBounds_toArray, List.set_cons_zero, List.set_cons_succ])
  refine wpQuiet_step_h hlq ?_
  clear hlq lq
  intro K lq hlq hK
  refine wanted_go (by rfl) ?_
  refine ⟨?_, fun W hW => ?_, ?_⟩
  rotate_left
  · skip
    go_simp
    with_reducible rfl
  refine hK _ ?_
  clear hK K
  (try simp only [Act.put, List.setIfInBounds_toArray, List.set_cons_zero, List.set_cons_succ])
  refine wpQuiet_step_h hlq ?_
  clear hlq lq
  intro K lq hlq hK
  refine wanted_go (by rfl) ?_
  refine ⟨?_, fun W hW => ?_, ?_⟩
  rotate_left
  · skip
    go_simp
    with_reducible rfl
  refine hK _ ?_
  clear hK K
  (try simp only [Act.put, List.setIfInBounds_toArray, List.set_cons_zero, List.set_cons_succ])
  refine wpQuiet_step_h hlq ?_
  clear hlq lq
  intro K lq hlq hK
  refine wanted_go (by rfl) ?_
  refine ⟨vA a, fun W hW => ?_, ?_⟩
  · skip
    exact quiet_load 42 _ rfl rfl (ldA (hW.all.get 2 (x := (w.heap.size, oA a)) rfl) Ha.out)
  refine hK _ ?_
  clear hK K
  (try simp only [Act.put, List.setIfInBounds_toArray, List.set_cons_zero, List.set_cons_succ])
  refine wpQuiet_step_h hlq ?_
  clear hlq lq
  intro K lq hlq hK
  refine wanted_go (by rfl) ?_
  refine ⟨.int .i64 f, fun W hW => ?_, ?_⟩
  · go_simp
    have E' := hW.env E
    exact (c3).mono fun e W2 hc2 => ⟨hc2.1, hW.go hc2.2⟩
  refine hK _ ?_
  clear hK K
  (try simp only [Act.put, List.setIfInBounds_toArray, List.set_cons_zero, List.set_cons_succ])
  refine wpQuiet_step_h hlq ?_
  clear hlq lq
  intro K lq hlq hK
  refine wanted_go (by rfl) ?_
  refine ⟨vA a, fun W hW => ?_, ?_⟩
  · skip
    exact quiet_load 42 _ rfl rfl (ldA (hW.all.get 2 (x := (w.heap.size, oA a)) rfl) Ha.out)
  refine hK _ ?_
  clear hK K
  (try simp only [Act.put, List.setIfInBounds_toArray, List.set_cons_zero, List.set_cons_succ])
  refine wpQuiet_step_h hlq ?_
  clear hlq lq
  intro K lq hlq hK
  refine wanted_go (by rfl) ?_
  refine ⟨.int .i64 f, fun W hW => ?_, ?_⟩
  · go_simp
    have E' := hW.env E
    exact (c4).mono fun e W2 hc2 => ⟨hc2.1, hW.go hc2.2⟩
  refine hK _ ?_
  clear hK K
  (try simp only [Act.put, List.setIfInBounds_toArray, List.set_cons_zero, List.set_cons_succ])
  refine wpQuiet_step_h hlq ?_
  clear hlq lq
  intro K lq hlq hK
  refine wanted_go (by rfl) ?_
  refine ⟨?_, fun W hW => ?_, ?_⟩
  rotate_left
  · skip
    go_simp
    with_reducible rfl
  refine hK _ ?_
  clear hK K
  (try simp only [Act.put, List.setIfInBounds_toArray, List.set_cons_zero, List.set_cons_succ])
  refine wpQuiet_step_h hlq ?_
  clear hlq lq
  intro K lq hlq hK
  refine wanted_go (by rfl) ?_
  refine ⟨?_, fun W hW => ?_, ?_⟩
  rotate_left
  · skip
    go_simp
    with_reducible rfl
  refine hK _ ?_
  clear hK K
  (try simp only [Act.put, List.setIfInBounds_toArray, List.set_cons_zero, List.set_cons_succ])
  refine wpQuiet_step_h hlq ?_
  clear hlq lq
  intro K lq hlq hK
  refine wanted_go (by rfl) ?_
  refine ⟨?_, fun W hW => ?_, ?_⟩
  rotate_left
  · skip
    go_simp
    with_reducible rfl
  refine hK _ ?_
  clear hK K
  (try simp only [Act.put, List.setIfInBounds_toArray, List.set_cons_zero, List.set_cons_succ])
  refine wpQuiet_step_h hlq ?_
  clear hlq lq
  intro K lq hlq hK
  refine wanted_go (by rfl) ?_
  refine ⟨vA a, fun W hW => ?_, ?_⟩
  · skip
    exact quiet_load 42 _ rfl rfl (ldA (hW.all.get 2 (x := (w.heap.size, oA a)) rfl) Ha.out)
  refine hK _ ?_
  clear hK K
  (try simp only [Act.put, List.setIfInBounds_toArray, List.set_cons_zero, List.set_cons_succ])
  refine wpQuiet_step_h hlq ?_
  clear hlq lq
  intro K lq hlq hK
  refine wanted_go (by rfl) ?_
  refine ⟨.string ⟨t.toArray⟩, fun W hW => ?_, ?_⟩
  · go_simp
    have E' := hW.env E
    exact (c5 E').mono fun e W2 hc2 => ⟨hc2.1, hW.go hc2.2⟩
  refine hK _ ?_
  clear hK K
  (try simp only [Act.put, List.setIfInBounds_toArray, List.set_cons_zero, List.set_cons_succ])
  refine wpQuiet_step_h hlq ?_
  clear hlq lq
  intro K lq hlq hK
  refine wanted_go (by rfl) ?_
  refine ⟨vA a, fun W hW => ?_, ?_⟩
  · skip
    exact quiet_load 42 _ rfl rfl (ldA (hW.all.get 2 (x := (w.heap.size, oA a)) rfl) Ha.out)
  refine hK _ ?_
  clear hK K
  (try simp only [Act.put, List.setIfInBounds_toArray, List.set_cons_zero, List.set_cons_succ])
  refine wpQuiet_step_h hlq ?_
  clear hlq lq
  intro K lq hlq hK
  refine wanted_go (by rfl) ?_
  refine ⟨.string ⟨t.toArray⟩, fun W hW => ?_, ?_⟩
  · go_simp
    have E' := hW.env E
    exact (c6).mono fun e W2 hc2 => ⟨hc2.1, hW.go hc2.2⟩
  refine hK _ ?_
  clear hK K
  (try simp only [Act.put, List.setIfInBounds_toArray, List.set_cons_zero, List.set_cons_succ])
  refine wpQuiet_step_h hlq ?_
  clear hlq lq
  intro K lq hlq hK
  refine wanted_go (by rfl) ?_
  refine ⟨?_, fun W hW => ?_, ?_⟩
  rotate_left
  · skip
    go_simp
    with_reducible rfl
  refine hK _ ?_
  clear hK K
  (try simp only [Act.put, List.setIfInBounds_toArray, List.set_cons_zero, List.set_cons_succ])
  refine wpQuiet_step_h hlq ?_
  clear hlq lq
  intro K lq hlq hK
  refine wanted_go (by rfl) ?_
  refine ⟨?_, fun W hW => ?_, ?_⟩
  rotate_left
  · skip
    go_simp
    with_reducible rfl
  refine hK _ ?_
  clear hK K
  (try simp only [Act.put, List.setIfInBounds_toArray, List.set_cons_zero, List.set_cons_succ])
  refine wpQuiet_step_h hlq ?_
  clear hlq lq
  intro K lq hlq hK
  refine wanted_go (by rfl) ?_
  refine ⟨?_, fun W hW => ?_, ?_⟩
  rotate_left
  · skip
    go_simp
    with_reducible rfl
  refine hK _ ?_
  clear hK K
  (try simp only [Act.put, List.setIfInBounds_toArray, List.set_cons_zero, List.set_cons_succ])
  refine wpQuiet_step_h hlq ?_
  clear hlq lq
  intro K lq hlq hK
  refine wanted_go (by rfl) ?_
  refine ⟨.bool true, fun W hW => ?_, ?_⟩
  · go_simp
    have E' := hW.env E
    exact (live02_any E').mono fun e W2 hc2 => ⟨hc2.1, hW.go hc2.2⟩
  refine hK _ ?_
  clear hK K
  (try simp only [Act.put, List.setIfInBounds_toArray, List.set_cons_zero, List.set_cons_succ])
  refine wpQuiet_step_h hlq ?_
  clear hlq lq
  intro K lq hlq hK
  refine wanted_go (by rfl) ?_
  refine ⟨?_, fun W hW => ?_, ?_⟩
  rotate_left
  · skip
    go_simp
    with_reducible rfl
  refine hK _ ?_
  clear hK K
  (try simp only [Act.put, List.setIfInBounds_toArray, List.set_cons_zero, List.set_cons_succ])
  refine wpQuiet_step_h hlq ?_
  clear hlq lq
  intro K lq hlq hK
  refine wanted_go (by rfl) ?_
  refine ⟨?_, fun W hW => ?_, ?_⟩
  rotate_left
  · skip
    go_simp
    with_reducible rfl
  refine hK _ ?_
  clear hK K
  (try simp only [Act.put, List.setIfInBounds_toArray, List.set_cons_zero, List.set_cons_succ])
  refine wpQuiet_nil_h hlq ?_
  clear hlq lq hV10
  intro V11 hV12
  go_wp2_with fail
  go_ret
  exact ⟨rfl, hV12.bel⟩
theorem AddrTexts_walk (s : ByteArray) (a : List Int) (hs : s.size ≤ 140737488351232) (ha : isA a) {w : World} (E : Env w) : Calls Tryz.prog 6 #[.string s, vA a] w fun e w' => e = .returned (.bool true) ∧ Below w.heap.size w w' := by
  by_cases h : 5000 < s.size
  · exact texts_long h ha E
  · refine texts_run (by omega) ha (x := okA (parseS s)) ?_ rfl rfl rfl rfl E
    unfold parseS
    cases hq : quadS s with
    | some q => exact quadS_ok hq
    | none => exact okA_col s
end Go.Proofs.YtnljjlaececnkaaGreatDoor
/-
  What a card's listed variables give the walks; the opening of arguments that are addresses, prefixes, pairs. No condition.
-/
namespace Go.Proofs.YtnljjlaececnkaaGreatDoor
open Go.ChangeShapes Go.WideShapes Go.ChangeAt Go.RowKit
set_option linter.unusedVariables false
set_option linter.unusedSimpArgs false
theorem star_err : "*" ++ "errors.errorString" = "*errors.errorString" := by decide
theorem row354 (u : TypeId) (h : Tryz.prog.typeName? 3 u = some "*errors.errorString") : u = 354 :=
  typeName_ptr_named (nm := "errors.errorString") (by rw [star_err]; kernel_rfl) (by kernel_rfl) (by decide) u (by rw [star_err]; exact h)
theorem c356 : Tryz.prog.cellsOf 356 = 1 := by kernel_rfl
theorem c9' : Tryz.prog.cellsOf 9 = 1 := by kernel_rfl
theorem c5' : Tryz.prog.cellsOf 5 = 1 := by kernel_rfl
def bruijn : List Int := [0, 1, 56, 2, 57, 49, 28, 3, 61, 58, 42, 50, 38, 29, 17, 4, 62, 47, 59, 36, 45, 43, 51, 22, 53, 39, 33, 30, 24, 18, 12, 5, 63, 55, 48, 27, 60, 41, 37, 16, 46, 35, 44, 21, 52, 32, 23, 11, 54, 26, 40, 15, 34, 20, 31, 10, 25, 14, 19, 9, 13, 8, 7, 6]
theorem tab_below {P : Program} {w w' : World} {name : String} {k : IntKind} {zs : List Int} (h : Lib.TabIs P w name k zs) (hb : Below w.heap.size w w') : Lib.TabIs P w' name k zs := by
  unfold Lib.TabIs World.var? at *
  cases hg : P.globalNamed name with
  | none => simp [hg] at h
  | some g =>
    simp only [hg, Option.bind_some] at h ⊢
    have hlt : g < w.heap.size := by
      rcases Nat.lt_or_ge g w.heap.size with h' | h'
      · exact h'
      · simp [Array.getElem?_eq_none h'] at h
    rw [hb.block g hlt]; exact h
theorem EnvC.below {W W' : World} (h : EnvC W) (hb : Below W.heap.size W W') : EnvC W' := by
  have hc : ∀ {b o : Nat} {v : Value}, W.cell? ⟨b, o, none⟩ = some v → W'.cell? ⟨b, o, none⟩ = some v := fun {b o v} hv => by
    rw [hb.cell (p := ⟨b, o, none⟩) (World.block_lt_of_cell? W _ hv)]; exact hv
  obtain ⟨⟨m, h1⟩, ⟨e1, h2, i2⟩, ⟨e2, h3, i3⟩, h4, h5⟩ := h
  exact ⟨⟨m, hc h1⟩, ⟨e1, hc h2, i2⟩, ⟨e2, hc h3, i3⟩, tab_below h4 hb, hc h5⟩
theorem EnvC.env {W : World} (h : EnvC W) : Env W := fun W' hb => h.below hb
theorem envc_of {W : World} (hsh : W.ShapedOpen Tryz.prog) (hL : laidMetH Tryz.prog Rows.addrTreeRow.laid W) : EnvC W := by
  rw [MakeChecks.laidMetH_plain _ _ _ (by kernel_rfl)] at hL
  obtain ⟨m, hm⟩ := cell_of_shapedOpen_int (g := 0) (zero := #[.int .i64 0]) (t := 3) hsh (of_decide_eq_true (by kernel_rfl)) (by kernel_rfl) rfl (by kernel_rfl) (by kernel_rfl) Tryz.underlying3
  have h1 := hL.tail
  have h2 := h1.tail
  have h4 := h2.tail.tail
  have h5 := h4.tail
  have t64 : Lib.TabIs Tryz.prog W "math/bits.deBruijn64tab" .u8 bruijn := Lib.tabIs_of_head (g := 7) (t := 382) (e := 5) (n := 64) (by kernel_rfl) (by kernel_rfl) Tryz.underlying382 Tryz.underlying5 c5' (by kernel_rfl) h1
  have tp : Lib.TabIs Tryz.prog W "internal/strconv.uint64pow10" .u64 Lib.pow10Tab := Lib.tabIs_of_head (g := 3) (t := 324) (e := 161) (n := 20) (by kernel_rfl) (by kernel_rfl) Tryz.underlying324 Tryz.underlying161 (by kernel_rfl) (by kernel_rfl) h2
  obtain ⟨a1, s1, v1, -, -, -⟩ := laid_sentinel h4 (g := 2) (ti := 158) (by kernel_rfl) (by kernel_rfl) Tryz.underlying158 row354 Tryz.underlying354 Tryz.underlying356 rfl rfl Tryz.underlying9 c356 c9'
  obtain ⟨a2, s2, v2, -, -, -⟩ := laid_sentinel h5 (g := 1) (ti := 158) (by kernel_rfl) (by kernel_rfl) Tryz.underlying158 row354 Tryz.underlying354 Tryz.underlying356 rfl rfl Tryz.underlying9 c356 c9'
  have c1 := World.var?_cell (show Tryz.prog.globalNamed "strconv.ErrRange" = some 2 by kernel_rfl) v1 0
  have c2 := World.var?_cell (show Tryz.prog.globalNamed "strconv.ErrSyntax" = some 1 by kernel_rfl) v2 0
  exact ⟨⟨m, hm⟩, ⟨_, by simpa using c2, .inr ⟨_, _, rfl⟩⟩, ⟨_, by simpa using c1, .inr ⟨_, _, rfl⟩⟩, tp, by have := t64.cell (show Tryz.prog.globalNamed "math/bits.deBruijn64tab" = some 7 by kernel_rfl) 15 (by decide); simpa [bruijn] using this⟩
theorem env_of {W : World} (hsh : W.ShapedOpen Tryz.prog) (hL : laidMetH Tryz.prog Rows.addrTreeRow.laid W) : Env W := (envc_of hsh hL).env
/-! ### arguments -/
theorem cell_int {P : Program} {w : World} {r : Reach} {base : Nat} {t : TypeId} {v : Value} {k : IntKind} (ht : P.underlying t = some (.int k)) (h : Cell.okWide P w r base t v) : ∃ n, v = .int k n ∧ k.has n := by
  unfold Cell.okWide at h
  rw [ht] at h
  cases v <;> simp_all [Cell.ok]
/-- A row of cells, each a whole number of its kind. -/
theorem open_cells {P : Program} {w : World} {r : Reach} {base : Nat} {t : TypeId} {cs : Array Value} {ts : List TypeId} {ks : List IntKind} (hts : P.cellTypes P.depth t = some ts) (hk : ts.map P.underlying = ks.map fun k => some (.int k)) (hsz : cs.size = ts.length) (h : Row.okWide P w r base t cs) :
    ∃ xs : List Int, xs.length = ts.length ∧ ∀ (i : Nat) (k : IntKind), ks[i]? = some k → ∃ x, xs[i]? = some x ∧ cs[i]? = some (.int k x) ∧ k.has x := by
  obtain ⟨ts', h1, -, h3⟩ := h
  rw [hts] at h1; cases h1
  have key : ∀ i, i < ts.length → ∃ k x, ks[i]? = some k ∧ cs[i]? = some (.int k x) ∧ k.has x := by
    intro i hi
    obtain ⟨v, hv⟩ : ∃ v, cs[i]? = some v := ⟨_, Array.getElem?_eq_getElem (by omega)⟩
    obtain ⟨u, hu, ho⟩ := h3 i v hv
    rw [Nat.mod_eq_of_lt hi] at hu
    have e := congrArg (fun l => l[i]?) hk
    simp only [List.getElem?_map, hu, Option.map_some] at e
    cases hki : ks[i]? with
    | none => rw [hki] at e; cases e
    | some k =>
      rw [hki] at e
      obtain ⟨x, rfl, hx⟩ := cell_int (Option.some.inj e) ho
      exact ⟨k, x, rfl, hv, hx⟩
  have hl : ks.length = ts.length := by have := congrArg List.length hk; simpa using this.symm
  refine ⟨(List.range ts.length).map fun i => (match cs[i]? with | some (Value.int _ x) => x | _ => (0 : Int)), by simp, fun i k hki => ?_⟩
  have hi : i < ts.length := by have := (List.getElem?_eq_some_iff.1 hki).1; omega
  obtain ⟨k', x, h1, h2, h4⟩ := key i hi
  rw [hki] at h1; cases h1
  exact ⟨x, by simp [hi, h2], h2, h4⟩
theorem has_u8 {x : Int} (h : IntKind.u8.has x) : 0 ≤ x ∧ x < 256 := by
  have e1 : IntKind.u8.min = 0 := rfl
  have e2 : IntKind.u8.max = 255 := rfl
  simp [IntKind.has, e1, e2] at h; omega
theorem rep_get {α : Type} {n i : Nat} (k : α) (h : i < n) : (List.replicate n k)[i]? = some k := by rw [List.getElem?_replicate, if_pos h]
theorem ct42 : Tryz.prog.cellTypes Tryz.prog.depth 42 = some (List.replicate 16 5) := by kernel_rfl
theorem ct55 : Tryz.prog.cellTypes Tryz.prog.depth 55 = some (List.replicate 16 5 ++ [3]) := by kernel_rfl
theorem ct57 : Tryz.prog.cellTypes Tryz.prog.depth 57 = some (List.replicate 16 5 ++ [3] ++ (List.replicate 16 5 ++ [3])) := by kernel_rfl
theorem size42' : Tryz.prog.cellsOf 42 = 16 := by kernel_rfl
theorem arr_eq {cs : Array Value} {l : List Value} (hl : cs.size = l.length) (h : ∀ i, i < l.length → cs[i]? = l[i]?) : cs = l.toArray := by
  apply Array.ext_getElem?
  intro i
  by_cases hi : i < l.length
  · rw [h i hi, List.getElem?_toArray]
  · rw [Array.getElem?_eq_none (by omega), List.getElem?_toArray, List.getElem?_eq_none (by omega)]
section
variable {w : World} {r : Reach} {base : Nat} {v : Value}
set_option maxRecDepth 100000 in
/-- An address that came in. -/
theorem open_A (h : Value.okWide Tryz.prog w r base 42 v) : ∃ a, v = vA a ∧ isA a := by
  unfold Value.okWide at h
  rw [Tryz.underlying42] at h
  obtain ⟨cs, rfl, hsz, hr⟩ := h
  rw [size42'] at hsz
  obtain ⟨xs, hl, hx⟩ := open_cells (ks := List.replicate 16 .u8) ct42 (by simp [Tryz.underlying5]) (by simp [hsz]) hr
  have hg : ∀ i, i < 16 → ∃ x, xs[i]? = some x ∧ cs[i]? = some (.int .u8 x) ∧ IntKind.u8.has x := fun i hi => hx i .u8 (rep_get _ hi)
  have hl' : xs.length = 16 := by simpa using hl
  refine ⟨xs, ?_, hl', fun x hm => ?_⟩
  · unfold vA
    congr 1
    refine arr_eq (by rw [nums_length]; omega) fun i hi => ?_
    rw [nums_length] at hi
    obtain ⟨x, h1, h2, -⟩ := hg i (by omega)
    rw [h2, nums_get h1]
  · obtain ⟨i, hi, rfl⟩ := List.mem_iff_getElem.1 hm
    obtain ⟨x, h1, -, h3⟩ := hg i (by omega)
    rw [List.getElem?_eq_getElem hi] at h1
    rw [Option.some.inj h1]; exact has_u8 h3
theorem has_i64 {x : Int} (h : IntKind.i64.has x) : (Lit.int .i64 x).wf = true := by
  simp [IntKind.has] at h
  simp [Lit.wf]; omega
set_option maxRecDepth 100000 in
/-- The part of a row that is a prefix. -/
theorem open_pf {cs : Array Value} {off : Nat} (h8 : ∀ i, i < 16 → ∃ x, cs[off + i]? = some (.int .u8 x) ∧ IntKind.u8.has x) (hn : ∃ x, cs[off + 16]? = some (.int .i64 x) ∧ IntKind.i64.has x) :
    ∃ p : Pf, p.ok ∧ ∀ j, j < 17 → cs[off + j]? = (pCs p.a p.n)[j]? := by
  obtain ⟨n, hn, hn2⟩ := hn
  have hg : ∀ i, i < 16 → ((List.range 16).map fun i => (match cs[off + i]? with | some (Value.int _ x) => x | _ => (0 : Int)))[i]? = some (match cs[off + i]? with | some (Value.int _ x) => x | _ => (0 : Int)) := fun i hi => by simp [hi]
  refine ⟨⟨(List.range 16).map fun i => (match cs[off + i]? with | some (Value.int _ x) => x | _ => (0 : Int)), n⟩, ⟨⟨by simp, fun x hx => ?_⟩, has_i64 hn2⟩, fun j hj => ?_⟩
  · obtain ⟨i, hi, rfl⟩ := List.mem_map.1 hx
    obtain ⟨y, h1, h2⟩ := h8 i (by simpa using hi)
    rw [h1]; exact has_u8 h2
  · by_cases h16 : j < 16
    · obtain ⟨y, h1, h2⟩ := h8 j h16
      have := hg j h16
      rw [h1] at this ⊢
      exact (pCs_at (p := ⟨_, n⟩) (nums_get (k := .u8) this)).symm
    · obtain rfl : j = 16 := by omega
      rw [hn]
      exact (pCs_get (p := ⟨_, n⟩) ⟨by simp, fun x hx => by
        obtain ⟨i, hi, rfl⟩ := List.mem_map.1 hx
        obtain ⟨y, h1, h2⟩ := h8 i (by simpa using hi)
        rw [h1]; exact has_u8 h2⟩).symm
set_option maxRecDepth 100000 in
/-- A prefix that came in. -/
theorem open_P (h : Value.okWide Tryz.prog w r base 55 v) : ∃ p, v = vPf p ∧ p.ok := by
  unfold Value.okWide at h
  rw [Tryz.underlying55] at h
  obtain ⟨cs, rfl, hsz, hr⟩ := h
  rw [c55] at hsz
  obtain ⟨xs, hl, hx⟩ := open_cells (ks := List.replicate 16 .u8 ++ [.i64]) ct55 (by simp [Tryz.underlying5, Tryz.underlying3]) (by simp [hsz]) hr
  obtain ⟨p, hp, he⟩ := open_pf (cs := cs) (off := 0) (fun i hi => by
      obtain ⟨x, -, h2, h3⟩ := hx i .u8 (by rw [List.getElem?_append_left (by rw [List.length_replicate]; exact hi)]; exact rep_get _ hi)
      exact ⟨x, by simpa using h2, h3⟩) (by
      obtain ⟨x, -, h2, h3⟩ := hx 16 .i64 (by simp)
      exact ⟨x, by simpa using h2, h3⟩)
  refine ⟨p, ?_, hp⟩
  unfold vPf
  congr 1
  refine arr_eq (by rw [pCs_len hp.1]; exact hsz) fun j hj => ?_
  rw [pCs_len hp.1] at hj
  simpa using he j hj
set_option maxRecDepth 100000 in
/-- A pair that came in. -/
theorem open_PP (h : Value.okWide Tryz.prog w r base 57 v) : ∃ p, v = vPP p ∧ p.fit := by
  unfold Value.okWide at h
  rw [Tryz.underlying57] at h
  obtain ⟨cs, rfl, hsz, hr⟩ := h
  rw [c57] at hsz
  obtain ⟨xs, hl, hx⟩ := open_cells (ks := List.replicate 16 .u8 ++ [.i64] ++ (List.replicate 16 .u8 ++ [.i64])) ct57 (by simp [Tryz.underlying5, Tryz.underlying3]) (by simp [hsz]) hr
  obtain ⟨p, hp, he⟩ := open_pf (cs := cs) (off := 0) (fun i hi => by
      obtain ⟨x, -, h2, h3⟩ := hx i .u8 (by rw [List.append_assoc, List.getElem?_append_left (by rw [List.length_replicate]; exact hi)]; exact rep_get _ hi)
      exact ⟨x, by simpa using h2, h3⟩) (by
      obtain ⟨x, -, h2, h3⟩ := hx 16 .i64 (by simp)
      exact ⟨x, by simpa using h2, h3⟩)
  obtain ⟨q, hq, hf⟩ := open_pf (cs := cs) (off := 17) (fun i hi => by
      obtain ⟨x, -, h2, h3⟩ := hx (17 + i) .u8 (by
        have e : (List.replicate 16 IntKind.u8 ++ [IntKind.i64]).length = 17 := rfl
        rw [List.getElem?_append_right (by omega), e, Nat.add_sub_cancel_left, List.getElem?_append_left (by rw [List.length_replicate]; exact hi)]; exact rep_get _ hi)
      exact ⟨x, h2, h3⟩) (by
      obtain ⟨x, -, h2, h3⟩ := hx 33 .i64 (by simp)
      exact ⟨x, by simpa using h2, h3⟩)
  refine ⟨⟨p, q⟩, ?_, hp, hq⟩
  unfold vPP
  congr 1
  refine arr_eq (by rw [List.length_append, pCs_len hp.1, pCs_len hq.1]; exact hsz) fun j hj => ?_
  rw [List.length_append, pCs_len hp.1, pCs_len hq.1] at hj
  by_cases hj17 : j < 17
  · rw [List.getElem?_append_left (by rw [pCs_len hp.1]; exact hj17)]
    simpa using he j hj17
  · rw [List.getElem?_append_right (by rw [pCs_len hp.1]; omega), pCs_len hp.1, ← hf (j - 17) (by omega), show 17 + (j - 17) = j by omega]
end
end Go.Proofs.YtnljjlaececnkaaGreatDoor
/-
  The closed facts on the whole program that each row asks, one declaration each. No condition.
-/
namespace Go.Proofs.YtnljjlaececnkaaGreatDoor
open Go.ChangeShapes Go.WideShapes
set_option linter.unusedVariables false
theorem jf_out : laidOutB Tryz.pinned.checked.prog = true := by kernel_rfl
theorem jf_maps : mapsRowed Tryz.pinned.checked.prog = true := by kernel_rfl
theorem jf_stops : (Tryz.pinned.checked.prog.stops == []) = true := by kernel_rfl
theorem jf_knobs : (Tryz.pinned.checked.prog.stopKnobs == []) = true := by kernel_rfl
theorem jf_keys : (false == Tryz.pinned.checked.prog.plainKeys) = true := by kernel_rfl
theorem jf_heard : Tryz.pinned.checked.prog.stopsHeard = true := by kernel_rfl
theorem jf_enter : Tryz.pinned.checked.prog.mayEnter = true := by kernel_rfl
theorem jf_lift : (Rows.addrTreeRow.lifted == Tryz.pinned.checked.prog.liftsFinal) = true := by kernel_rfl
theorem jf_make : (Tryz.pinned.checked.prog.make == some Rows.addrTreeRow.make) = true := by kernel_rfl
/-! ### of a card -/
theorem jf_main : Tryz.pinned.checked.prog.mainIs = some (true, "11f230a8d8e2c1745f747872d237d21740fd6a16d7af62534ef2deb61fc91356".toList) := by kernel_rfl
theorem jf_looks : true = Tryz.pinned.checked.prog.looks [] := by kernel_rfl
end Go.Proofs.YtnljjlaececnkaaGreatDoor
/-
  The closed facts of a row, out of those of its own and those on the whole program. No condition.
-/
namespace Go.Proofs.YtnljjlaececnkaaGreatDoor
open Go.ChangeShapes Go.WideShapes
set_option linter.unusedVariables false
/-- The closed facts of a row, out of those of its own. -/
theorem joined_gen {P : Program} {f : FuncId} {fn : Func} {s : ChangeSpec} {c : OpenClaim}
    (jf_out : laidOutB P = true) (jf_maps : mapsRowed P = true) (jf_stops : (P.stops == []) = true) (jf_knobs : (P.stopKnobs == []) = true) (k1 : (c.plainKeys == P.plainKeys) = true) (jf_heard : P.stopsHeard = true) (jf_enter : P.mayEnter = true) (k2 : (c.lifted == P.liftsFinal) = true) (k3 : (P.make == some c.make) = true)
    (a1 : c.wf (OpenSpec.ofChange s) = true) (a2 : fn.params.all (P.readableRec ·) = true) (a3 : namedTie P c.named s.vars = true) (a4 : (c.stops == []) = true) (a5 : (c.knobs == []) = true)
    (a6 : (c.inPlace == P.inPlace f) = true) (a7 : (c.unfollowed == P.unfollowed f) = true) (a8 : (c.recurses == P.recurses f) = true) (a9 : (c.named == P.varsNamed f) = true)
    (b1 : (c.maps == (fn.params.toList ++ s.plain.varTypes P).any (P.mapsRec ·)) = true) (b2 : (c.ifaces == (fn.params.toList ++ s.plain.varTypes P).any (P.ifacesRec ·)) = true) (b3 : (c.mapsOut == P.mapsAmong fn.resultTypes.toList) = true)
    (b4 : (c.loops == (fn.params.toList ++ s.plain.varTypes P).any (P.loopsFrom ·)) = true) (b5 : (c.wideKeys == (fn.params.toList ++ s.plain.varTypes P ++ fn.resultTypes.toList).any (P.wideKeysFrom ·)) = true)
    (b6 : s.vars.all (P.varReadable ·) = true) (b7 : fn.resultTypes.all (fun t => P.readableRec t && decide (t < P.types.size)) = true) (b8 : (c.ifacesOut == fn.resultTypes.toList.any (P.ifacesRec ·)) = true) (b9 : (c.loopsOut == fn.resultTypes.toList.any (P.loopsFrom ·)) = true)
    (d1 : c.shortTexts.isNone = true) (d2 : (c.kinds == (if c.domain.isEmpty then [] else fn.params.toList.map fun t => match P.underlying t with | some (.int k) => some k | _ => none)) = true) (d3 : (c.pinned == c.pinnedBy) = true)
    (d4 : (c.veiled == (fn.params.toList ++ s.plain.varTypes P ++ fn.resultTypes.toList).any (P.veiledRec ·)) = true) (d5 : c.veiledFits P fn.params.toList (fn.params.toList ++ s.plain.varTypes P ++ fn.resultTypes.toList) = true) :
    joinedFacts P f fn s c = true := by
  unfold joinedFacts
  rw [a1, jf_out, jf_maps, a2, a3, a4, jf_stops, a5, jf_knobs, a6, a7, a8, a9, b1, b2, b3, b4, b5, b6, b7, b8, b9, k1, d1, jf_heard, jf_enter, k2, k3, d3, d4, d5]
  simp only [Bool.true_and, Bool.and_true]
  exact d2
/-- The closed facts of a row, out of those of its own. -/
theorem joined_of {f : FuncId} {fn : Func} {s : ChangeSpec} {c : OpenClaim}
    (hk : c.plainKeys = false) (hl : c.lifted = Rows.addrTreeRow.lifted) (hm : c.make = Rows.addrTreeRow.make)
    (a1 : c.wf (OpenSpec.ofChange s) = true) (a2 : fn.params.all (Tryz.pinned.checked.prog.readableRec ·) = true) (a3 : namedTie Tryz.pinned.checked.prog c.named s.vars = true) (a4 : (c.stops == []) = true) (a5 : (c.knobs == []) = true)
    (a6 : (c.inPlace == Tryz.pinned.checked.prog.inPlace f) = true) (a7 : (c.unfollowed == Tryz.pinned.checked.prog.unfollowed f) = true) (a8 : (c.recurses == Tryz.pinned.checked.prog.recurses f) = true) (a9 : (c.named == Tryz.pinned.checked.prog.varsNamed f) = true)
    (b1 : (c.maps == (fn.params.toList ++ s.plain.varTypes Tryz.pinned.checked.prog).any (Tryz.pinned.checked.prog.mapsRec ·)) = true) (b2 : (c.ifaces == (fn.params.toList ++ s.plain.varTypes Tryz.pinned.checked.prog).any (Tryz.pinned.checked.prog.ifacesRec ·)) = true) (b3 : (c.mapsOut == Tryz.pinned.checked.prog.mapsAmong fn.resultTypes.toList) = true)
    (b4 : (c.loops == (fn.params.toList ++ s.plain.varTypes Tryz.pinned.checked.prog).any (Tryz.pinned.checked.prog.loopsFrom ·)) = true) (b5 : (c.wideKeys == (fn.params.toList ++ s.plain.varTypes Tryz.pinned.checked.prog ++ fn.resultTypes.toList).any (Tryz.pinned.checked.prog.wideKeysFrom ·)) = true)
    (b6 : s.vars.all (Tryz.pinned.checked.prog.varReadable ·) = true) (b7 : fn.resultTypes.all (fun t => Tryz.pinned.checked.prog.readableRec t && decide (t < Tryz.pinned.checked.prog.types.size)) = true) (b8 : (c.ifacesOut == fn.resultTypes.toList.any (Tryz.pinned.checked.prog.ifacesRec ·)) = true) (b9 : (c.loopsOut == fn.resultTypes.toList.any (Tryz.pinned.checked.prog.loopsFrom ·)) = true)
    (d1 : c.shortTexts.isNone = true) (d2 : (c.kinds == (if c.domain.isEmpty then [] else fn.params.toList.map fun t => match Tryz.pinned.checked.prog.underlying t with | some (.int k) => some k | _ => none)) = true) (d3 : (c.pinned == c.pinnedBy) = true)
    (d4 : (c.veiled == (fn.params.toList ++ s.plain.varTypes Tryz.pinned.checked.prog ++ fn.resultTypes.toList).any (Tryz.pinned.checked.prog.veiledRec ·)) = true) (d5 : c.veiledFits Tryz.pinned.checked.prog fn.params.toList (fn.params.toList ++ s.plain.varTypes Tryz.pinned.checked.prog ++ fn.resultTypes.toList) = true) :
    joinedFacts Tryz.pinned.checked.prog f fn s c = true := by
  have k1 : (c.plainKeys == Tryz.pinned.checked.prog.plainKeys) = true := by rw [hk]; exact jf_keys
  have k2 : (c.lifted == Tryz.pinned.checked.prog.liftsFinal) = true := by rw [hl]; exact jf_lift
  have k3 : (Tryz.pinned.checked.prog.make == some c.make) = true := by rw [hm]; exact jf_make
  exact joined_gen jf_out jf_maps jf_stops jf_knobs k1 jf_heard jf_enter k2 k3 a1 a2 a3 a4 a5 a6 a7 a8 a9 b1 b2 b3 b4 b5 b6 b7 b8 b9 d1 d2 d3 d4 d5
end Go.Proofs.YtnljjlaececnkaaGreatDoor
