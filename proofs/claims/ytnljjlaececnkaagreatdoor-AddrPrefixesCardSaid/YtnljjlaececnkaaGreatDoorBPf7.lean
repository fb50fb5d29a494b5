/-
  Merged texts (CO, HD, DA, HE, CE, CF, CG, CH, CI, CJ, CK, CL), part 7 of 8. Conditions: each part's own, told at its head.
-/
import Derived.Test.YtnljjlaececnkaaGreatDoorBPf1
import Derived.Test.YtnljjlaececnkaaGreatDoorBPf2
import Derived.Test.YtnljjlaececnkaaGreatDoorBPf3
import Derived.Test.YtnljjlaececnkaaGreatDoorBPf4
import Derived.Test.YtnljjlaececnkaaGreatDoorBPf5
import Derived.Test.YtnljjlaececnkaaGreatDoorBPf6
/-
  An address in groups, the document's. Condition: an address is sixteen bytes.
-/
namespace Go.Proofs.YtnljjlaececnkaaGreatDoor
open Go.RowKit
set_option linter.unusedVariables false
set_option linter.unusedSimpArgs false
theorem or_bytes64 {x y : Int} (x0 : 0 ≤ x) (x1 : x < 256) (y0 : 0 ≤ y) (y1 : y < 256) : bits .or .i64 (x * 256) y = x * 256 + y := by
  have w : ∀ n : Int, 0 ≤ n → n < 2 ^ 63 → IntKind.i64.wrap n = n := fun n h0 h1 => IntWalk.i64_in _ (by omega)
  exact bits_join .i64 63 (by decide) w 8 (x * 256) y (by omega) (by simp) (by simp; omega) y0 (by simpa using y1) (by simp; omega)
theorem ba_add (W : World) (s t : ByteArray) (h : s.size + t.size ≤ 9223372036854775807) : (binOp .add 9 (.string s) (.string t)).run Tryz.prog W = .ok (.string (s ++ t)) W := by
  rw [binOp_string_add]
  exact run_string_add_sum (P := Tryz.prog) (w := W) s t (by omega)
/-- A text that wants no colon, or one that does. -/
theorem sepG_cases (o : List UInt8) : (o = [] ∧ sepG o = o) ∨ (∃ m x, o.length = m + 1 ∧ o[m]? = some x ∧ ((x = 58 ∧ sepG o = o) ∨ (x ≠ 58 ∧ sepG o = o ++ [58]))) := by
  rcases List.eq_nil_or_concat o with rfl | ⟨m, x, rfl⟩
  · exact .inl ⟨rfl, rfl⟩
  · right
    rw [List.concat_eq_append]
    refine ⟨m.length, x, by simp, by simp, ?_⟩
    by_cases h : x = 58
    · exact .inl ⟨h, by unfold sepG; rw [if_pos (.inr (by simp [h]))]⟩
    · exact .inr ⟨h, by unfold sepG; exact if_neg (fun h1 => h1.elim (fun h1 => by simp at h1) (fun h1 => by simp at h1; exact h h1))⟩
set_option maxRecDepth 100000 in
set_option maxHeartbeats 3200000 in
/-- sixes. -/
theorem sixes_any {w : World} {a : List Int} (ha : isA a) : Calls Tryz.prog 108 #[vA a] w fun e w' => e = .returned (.string ⟨(groupedS a).toArray⟩) ∧ Below w.heap.size w w' := by
  have B := ((Bz.start w).alloc (oA a) rfl : Bz w [(w.heap.size, oA a)] _)
  have hb := Lib.hid (box1 w (oA a))
  have Ha := Lib.hid ha
  clear ha
  obtain ⟨G, hG⟩ : ∃ G, groups a = G := ⟨_, rfl⟩
  have hl : G.length = 8 := by rw [← hG]; exact groups_len a
  replace hl := Lib.hid hl
  replace hG := Lib.hid hG
  unfold vA
  go_enter Tryz.func108, Tryz.ntmps108
  go_wp2
  go_loop [3, 4, 5] (fun x3 x4 x5 => ∃ (i m : Nat) (b : Int), i ≤ 8 ∧ x5 = .int .i64 i ∧ x3 = .int .i64 b ∧ x4 = .int .i64 m ∧ 1 ≤ m ∧ m ≤ 9 ∧ Hid (bestI (runAt G i) = b ∧ longN (runAt G i) = m)) (fun _ _ x5 => 8 - (intOf x5).toNat)
  case atStart => exact ⟨0, 1, -1, by omega, rfl, rfl, rfl, by omega, by omega, Lib.hid ⟨rfl, rfl⟩⟩
  case round =>
    obtain ⟨i, m, b, hi, rfl, rfl, rfl, m1, m9, hbm⟩ := hrel
    by_cases hlt : i < 8
    · go_wp2
      go_loop [6] (fun x6 => ∃ n : Nat, i + n ≤ 8 ∧ x6 = .int .i64 n ∧ Hid (zc (G.drop i) = n + zc (G.drop (i + n)))) (fun x6 => 8 - (intOf x6).toNat)
      case atStart => exact ⟨0, by omega, rfl, Lib.hid (by simp)⟩
      case round =>
        obtain ⟨n, hn, rfl, hz⟩ := hrel
        have fin : ∀ (h0 : Hid (zc (G.drop (i + n)) = 0)), Hid (zc (G.drop i) = n) := fun h0 => Lib.hid (by have := hz.out; rw [h0.out] at this; omega)
        have hmore : ∀ (h0 : Hid (zc (G.drop i) = n)) (h : m < n), Hid (bestI (runAt G (i + 1)) = i ∧ longN (runAt G (i + 1)) = n) := fun h0 h => Lib.hid (run_more h0.out (by rw [hbm.out.2]; exact h))
        have hless : ∀ (h0 : Hid (zc (G.drop i) = n)) (h : ¬ m < n), Hid (bestI (runAt G (i + 1)) = b ∧ longN (runAt G (i + 1)) = m) := fun h0 h => Lib.hid (by rw [run_less h0.out (by rw [hbm.out.2]; exact h)]; exact hbm.out)
        by_cases hlt2 : i + n < 8
        · obtain ⟨x, hx, hx2, x0, x1⟩ := isA_getD Ha.out (j := 2 * (i + n)) (by omega)
          obtain ⟨y, hy, hy2, y0, y1⟩ := isA_getD Ha.out (j := 2 * (i + n) + 1) (by omega)
          have hgr := gr_zero Ha.out hlt2 hx2 hy2 x0 y0
          have hget : G[i + n]? = some (gr a (i + n)) := by rw [← hG.out]; exact groups_get hlt2
          have cx : (w.alloc (oA a)).cell? ⟨w.heap.size, 2 * (i + n), none⟩ = some (.int .u8 x) := (row_cell hb.out).trans (by rw [List.getElem?_toArray]; exact nums_get hx)
          have cy : (w.alloc (oA a)).cell? ⟨w.heap.size, 2 * (i + n) + 1, none⟩ = some (.int .u8 y) := (row_cell hb.out).trans (by rw [List.getElem?_toArray]; exact nums_get hy)
          unfold oA at cx cy
          by_cases hxz : x = 0
          · by_cases hyz : y = 0
            · have hnx : Hid (zc (G.drop i) = n + 1 + zc (G.drop (i + (n + 1)))) := Lib.hid (by
                have h0 := hgr.2 ⟨hxz, hyz⟩
                rw [h0] at hget
                rw [hz.out, zc_zero hget, Nat.add_assoc i n 1]; omega)
              clear hgr hget hx2 hy2 hx hy fin hmore hless
              subst hxz hyz
              go_wp2
              refine ⟨⟨n + 1, by omega, by congr 1, hnx⟩, by simp [intOf]; omega⟩
            · have hzc : Hid (zc (G.drop (i + n)) = 0) := Lib.hid (zc_pos hget (fun h => hyz (hgr.1 h).2))
              have hyb : (y == 0) = false := by simpa using hyz
              have hF := fin hzc
              clear hgr hget hx2 hy2 hx hy fin
              subst hxz
              replace hyz := Lib.hid hyz
              by_cases hmn : m < n
              · have hR := hmore hF hmn
                clear hmore hless
                go_wp2
                refine ⟨⟨i + 1, n, i, by omega, by congr 1, rfl, rfl, by omega, by omega, hR⟩, by simp [intOf]; omega⟩
              · have hR := hless hF hmn
                clear hmore hless
                go_wp2
                refine ⟨⟨i + 1, m, b, by omega, by congr 1, rfl, rfl, by omega, by omega, hR⟩, by simp [intOf]; omega⟩
          · have hzc : Hid (zc (G.drop (i + n)) = 0) := Lib.hid (zc_pos hget (fun h => hxz (hgr.1 h).1))
            have hxb : (x == 0) = false := by simpa using hxz
            have hF := fin hzc
            clear hgr hget hx2 hy2 hx hy fin
            replace hxz := Lib.hid hxz
            by_cases hmn : m < n
            · have hR := hmore hF hmn
              clear hmore hless
              go_wp2
              refine ⟨⟨i + 1, n, i, by omega, by congr 1, rfl, rfl, by omega, by omega, hR⟩, by simp [intOf]; omega⟩
            · have hR := hless hF hmn
              clear hmore hless
              go_wp2
              refine ⟨⟨i + 1, m, b, by omega, by congr 1, rfl, rfl, by omega, by omega, hR⟩, by simp [intOf]; omega⟩
        · have hF := fin (Lib.hid (zc_end (by have := hl.out; omega)))
          by_cases hmn : m < n
          · have hR := hmore hF hmn
            clear hmore hless fin
            go_wp2
            refine ⟨⟨i + 1, n, i, by omega, by congr 1, rfl, rfl, by omega, by omega, hR⟩, by simp [intOf]; omega⟩
          · have hR := hless hF hmn
            clear hmore hless fin
            go_wp2
            refine ⟨⟨i + 1, m, b, by omega, by congr 1, rfl, rfl, by omega, by omega, hR⟩, by simp [intOf]; omega⟩
    · obtain rfl : i = 8 := by omega
      obtain ⟨r, hr⟩ : ∃ r, runAt G 8 = r := ⟨_, rfl⟩
      have hle := runAt_le G 8 (by have := hl.out; omega)
      have htw := runAt_two G 8
      have hb1 := hbm.out.1
      have hm1 := hbm.out.2
      have hall : outAt G r 8 = groupedS a := by rw [← hr, ← hG.out]; exact outAt_all
      have hlen : ∀ j, j ≤ 8 → (outAt G r j).length ≤ 100 := by intro j hj; have := groupedS_len Ha.out j hj; rwa [hG.out, hr] at this
      rw [hr] at hle htw hb1 hm1
      obtain ⟨lo, hi2⟩ := r
      simp only at hle htw
      have hcase : (lo = hi2 ∧ b = -1) ∨ (lo < hi2 ∧ b = lo ∧ lo + m = hi2) := by
        unfold bestI at hb1
        unfold longN at hm1
        simp only at hb1 hm1
        split at hb1 <;> omega
      have h28 : hi2 ≤ 8 := by have := hl.out; omega
      replace hall := Lib.hid hall
      replace hlen := Lib.hid hlen
      clear hr hb1 hm1 hbm htw
      go_wp2
      go_loopw [7, 8] (fun x7 x8 wr => ∃ (j : Nat) (O : ByteArray), j ≤ 8 ∧ (lo = hi2 ∨ j ≤ lo ∨ hi2 ≤ j) ∧ x8 = .int .i64 j ∧ x7 = .string O ∧ Hid (O = ⟨(outAt G (lo, hi2) j).toArray⟩) ∧ Bz w [(w.heap.size, oA a)] wr) (fun x7 x8 wr => 8 - (intOf x8).toNat)
      case atStart => exact ⟨0, _, by omega, by omega, rfl, rfl, Lib.hid (by rw [outAt_zero]), B⟩
      case round =>
        obtain ⟨j, O, hj, hsk, rfl, rfl, hO, bx⟩ := hrel
        have hsz : O.size ≤ 100 := by rw [hO.out]; show (outAt G (lo, hi2) j).toArray.size ≤ 100; rw [List.size_toArray]; exact hlen.out j hj
        by_cases hlt : j < 8
        · by_cases hbest : lo < hi2 ∧ j = lo
          · obtain ⟨hlo, rfl⟩ := hbest
            have eqb : b = j := by omega
            subst eqb
            have hnx : Hid (O ++ (⟨#[58, 58]⟩ : ByteArray) = ⟨(outAt G (j, hi2) hi2).toArray⟩) := Lib.hid (by
              rw [← outAt_gap (r := (j, hi2)) hlo, hO.out]
              show (⟨(outAt G (j, hi2) j).toArray⟩ : ByteArray) ++ ⟨#[58, 58]⟩ = _
              apply ByteArray.ext; simp)
            go_wp2
            refine ⟨⟨hi2, _, by omega, by omega, by congr 1; omega, rfl, hnx, bx⟩, by simp [intOf]; omega⟩
          · have hne : ((j : Int) == b) = false := by simp; omega
            obtain ⟨x, hx, hx2, x0, x1⟩ := isA_getD Ha.out (j := 2 * j) (by omega)
            obtain ⟨y, hy, hy2, y0, y1⟩ := isA_getD Ha.out (j := 2 * j + 1) (by omega)
            have hg : ((gr a j : Nat) : Int) = x * 256 + y := by unfold gr; rw [hx2, hy2]; omega
            have hhx : hexI (x * 256 + y) = hexT (gr a j) := by rw [← hg]; rfl
            have hl4 : (hexI (x * 256 + y)).length ≤ 4 := hexI_len (by omega) (by omega)
            have hhs : (⟨(hexI (x * 256 + y)).toArray⟩ : ByteArray).size ≤ 4 := by show (hexI (x * 256 + y)).toArray.size ≤ 4; rw [List.size_toArray]; exact hl4
            have hget : G[j]? = some (gr a j) := by rw [← hG.out]; exact groups_get hlt
            have key : Hid (∀ P : ByteArray, P = ⟨(sepG (outAt G (lo, hi2) j)).toArray⟩ → P ++ (⟨(hexI (x * 256 + y)).toArray⟩ : ByteArray) = ⟨(outAt G (lo, hi2) (j + 1)).toArray⟩) := Lib.hid (fun P hP => by
              rw [← outAt_step (r := (lo, hi2)) hle.1 hget (by simp only; omega), hP, hhx]
              apply ByteArray.ext; simp)
            have hsep := sepG_cases (outAt G (lo, hi2) j)
            have nxt : lo = hi2 ∨ j + 1 ≤ lo ∨ hi2 ≤ j + 1 := by omega
            replace hx2 := Lib.hid hx2
            replace hy2 := Lib.hid hy2
            have hor := or_bytes64 x0 x1 y0 y1
            have w1 : IntKind.i64.wrap (2 * (j : Int)) = 2 * (j : Int) := IntWalk.i64_in _ (by omega)
            have w2 : IntKind.i64.wrap (2 * (j : Int) + 1) = 2 * (j : Int) + 1 := IntWalk.i64_in _ (by omega)
            have w3 : IntKind.i64.wrap x = x := IntWalk.i64_in _ (by omega)
            have w4 : IntKind.i64.wrap y = y := IntWalk.i64_in _ (by omega)
            have w5 : IntKind.i64.wrap (x * 256) = x * 256 := IntWalk.i64_in _ (by omega)
            have hn1 : (2 * (j : Int)).toNat = 2 * j := by omega
            have hn2 : (2 * (j : Int) + 1).toNat = 2 * j + 1 := by omega
            have q1 : (0 : Int) ≤ 2 * j := by omega
            have q2 : 2 * (j : Int) < 16 := by omega
            have q3 : (0 : Int) ≤ 2 * j + 1 := by omega
            have q4 : 2 * (j : Int) + 1 < 16 := by omega
            clear hx hy hg hhx hget hsk hcase
            rcases hsep with ⟨h0, hs⟩ | ⟨mm, z, hzl, hz, hs⟩
            · have hO2 : O = ⟨#[]⟩ := by rw [hO.out, h0]
              have kk := Lib.hid (key.out ⟨#[]⟩ (by rw [hs, h0]))
              clear hs h0 key
              subst hO2
              have hsum : (⟨#[]⟩ : ByteArray).size + (⟨(hexI (x * 256 + y)).toArray⟩ : ByteArray).size ≤ 9223372036854775807 := by show 0 + _ ≤ _; omega
              replace hhs := Lib.hid hhs
              replace hsum := Lib.hid hsum
              go_wp2_with fail
              refine wp_region_C (C := Bz w [(w.heap.size, oA a)]) (by kernel_rfl) (by kernel_rfl) (bx.drew) ?_
              refine wpQuiet_hide ?_
              intro lq hlq
              refine wpQuiet_step_h hlq ?_
              clear hlq lq
              intro K lq hlq hK
              refine wanted_go (by rfl) ?_
              refine ⟨?_, fun W hW => ?_, ?_⟩
              rotate_left
              · skip
                go_simp
                with_reducible rfl
              refine hK _ ?_
              clear hK K
              (try simp only [Act.put, List.setIfInBounds_toArray, List.set_cons_zero, List.set_cons_succ])
              refine wpQuiet_step_h hlq ?_
              clear hlq lq
              intro K lq hlq hK
              refine wanted_go (by rfl) ?_
              refine ⟨?_, fun W hW => ?_, ?_⟩
              rotate_left
              · skip
                go_simp
                with_reducible rfl
              refine hK _ ?_
              clear hK K
              (try simp only [Act.put, List.setIfInBounds_toArray, List.set_cons_zero, List.set_cons_succ])
              refine wpQuiet_step_h hlq ?_
              clear hlq lq
              intro K lq hlq hK
              refine wanted_go (by rfl) ?_
              refine ⟨?_, fun W hW => ?_, ?_⟩
              rotate_left
              · skip
                go_simp
                with_reducible rfl
              refine hK _ ?_
              clear hK K
              (try simp only [Act.put, List.setIfInBounds_toArray, List.set_cons_zero, List.set_cons_succ])
              refine wpQuiet_step_h hlq ?_
              clear hlq lq
              intro K lq hlq hK
              refine wanted_go (by rfl) ?_
              refine ⟨?_, fun W hW => ?_, ?_⟩
              rotate_left
              · skip
                go_simp
                with_reducible rfl
              refine hK _ ?_
              clear hK K
              (try simp only [Act.put, List.setIfInBounds_toArray, List.set_cons_zero, List.set_cons_succ])
              refine wpQuiet_step_h hlq ?_
              clear hlq lq
              intro K lq hlq hK
              refine wanted_go (by rfl) ?_
              refine ⟨.int .u8 x, fun W hW => ?_, ?_⟩
              · skip
                rw [← hx2.out]; exact quiet_load 5 _ rfl rfl (ldAi (i := 2 * j) (by omega) (hW.all.get 0 (x := (w.heap.size, oA a)) rfl) Ha.out)
              refine hK _ ?_
              clear hK K
              (try simp only [Act.put, List.setIfInBounds_toArray, List.set_cons_zero, List.set_cons_succ])
              refine wpQuiet_step_h hlq ?_
              clear hlq lq
              intro K lq hlq hK
              refine wanted_go (by rfl) ?_
              refine ⟨?_, fun W hW => ?_, ?_⟩
              rotate_left
              · skip
                go_simp
                with_reducible rfl
              refine hK _ ?_
              clear hK K
              (try simp only [Act.put, List.setIfInBounds_toArray, List.set_cons_zero, List.set_cons_succ])
              refine wpQuiet_step_h hlq ?_
              clear hlq lq
              intro K lq hlq hK
              refine wanted_go (by rfl) ?_
              refine ⟨?_, fun W hW => ?_, ?_⟩
              rotate_left
              · skip
                go_simp
                with_reducible rfl
              refine hK _ ?_
              clear hK K
              (try simp only [Act.put, List.setIfInBounds_toArray, List.set_cons_zero, List.set_cons_succ])
              refine wpQuiet_step_h hlq ?_
              clear hlq lq
              intro K lq hlq hK
              refine wanted_go (by rfl) ?_
              refine ⟨?_, fun W hW => ?_, ?_⟩
              rotate_left
              · skip
                go_simp
                with_reducible rfl
              refine hK _ ?_
              clear hK K
              (try simp only [Act.put, List.setIfInBounds_toArray, List.set_cons_zero, List.set_cons_succ])
              refine wpQuiet_step_h hlq ?_
              clear hlq lq
              intro K lq hlq hK
              refine wanted_go (by rfl) ?_
              refine ⟨?_, fun W hW => ?_, ?_⟩
              rotate_left
              · skip
                go_simp
                with_reducible rfl
              refine hK _ ?_
              clear hK K
              (try simp only [Act.put, List.setIfInBounds_toArray, List.set_cons_zero, List.set_cons_succ])
              refine wpQuiet_step_h hlq ?_
              clear hlq lq
              intro K lq hlq hK
              refine wanted_go (by rfl) ?_
              refine ⟨?_, fun W hW => ?_, ?_⟩
              rotate_left
              · skip
                go_simp
                with_reducible rfl
              refine hK _ ?_
              clear hK K
              (try simp only [Act.put, List.setIfInBounds_toArray, List.set_cons_zero, List.set_cons_succ])
              refine wpQuiet_step_h hlq ?_
              clear hlq lq
              intro K lq hlq hK
              refine wanted_go (by rfl) ?_
              refine ⟨?_, fun W hW => ?_, ?_⟩
              rotate_left
              · skip
                go_simp
                with_reducible rfl
              refine hK _ ?_
              clear hK K
              (try simp only [Act.put, List.setIfInBounds_toArray, List.set_cons_zero, List.set_cons_succ])
              refine wpQuiet_step_h hlq ?_
              clear hlq lq
              intro K lq hlq hK
              refine wanted_go (by rfl) ?_
              refine ⟨.int .u8 y, fun W hW => ?_, ?_⟩
              · skip
                rw [← hy2.out]; exact quiet_load 5 _ rfl rfl (ldAi (i := 2 * j + 1) (by omega) (hW.all.get 0 (x := (w.heap.size, oA a)) rfl) Ha.out)
              refine hK _ ?_
              clear hK K
              (try simp only [Act.put, List.setIfInBounds_toArray, List.set_cons_zero, List.set_cons_succ])
              refine wpQuiet_step_h hlq ?_
              clear hlq lq
              intro K lq hlq hK
              refine wanted_go (by rfl) ?_
              refine ⟨?_, fun W hW => ?_, ?_⟩
              rotate_left
              · skip
                go_simp
                with_reducible rfl
              refine hK _ ?_
              clear hK K
              (try simp only [Act.put, List.setIfInBounds_toArray, List.set_cons_zero, List.set_cons_succ])
              refine wpQuiet_step_h hlq ?_
              clear hlq lq
              intro K lq hlq hK
              refine wanted_go (by rfl) ?_
              refine ⟨?_, fun W hW => ?_, ?_⟩
              rotate_left
              · skip
                go_simp
                with_reducible rfl
              refine hK _ ?_
              clear hK K
              (try simp only [Act.put, List.setIfInBounds_toArray, List.set_cons_zero, List.set_cons_succ])
              refine wpQuiet_step_h hlq ?_
              clear hlq lq
              intro K lq hlq hK
              refine wanted_go (by rfl) ?_
              refine ⟨.string ⟨(hexI (x * 256 + y)).toArray⟩, fun W hW => ?_, ?_⟩
              · go_simp
                exact (hexes_call (by omega) (by omega)).mono fun e W2 hc2 => ⟨hc2.1, hW.go hc2.2⟩
              refine hK _ ?_
              clear hK K
              (try simp only [Act.put, List.setIfInBounds_toArray, List.set_cons_zero, List.set_cons_succ])
              refine wpQuiet_step_h hlq ?_
              clear hlq lq
              intro K lq hlq hK
              refine wanted_go (by rfl) ?_
              refine ⟨.string ((⟨#[]⟩ : ByteArray) ++ ⟨(hexI (x * 256 + y)).toArray⟩), fun W hW => ?_, ?_⟩
              · skip
                exact quiet_add rfl rfl rfl (ba_add W _ _ hsum.out)
              refine hK _ ?_
              clear hK K
              (try simp only [Act.put, List.setIfInBounds_toArray, List.set_cons_zero, List.set_cons_succ])
              refine wpQuiet_step_h hlq ?_
              clear hlq lq
              intro K lq hlq hK
              refine wanted_go (by rfl) ?_
              refine ⟨?_, fun W hW => ?_, ?_⟩
              rotate_left
              · skip
                go_simp
                with_reducible rfl
              refine hK _ ?_
              clear hK K
              (try simp only [Act.put, List.setIfInBounds_toArray, List.set_cons_zero, List.set_cons_succ])
              refine wpQuiet_nil_h hlq ?_
              clear hlq lq bx
              intro V1 hV2
              go_wp2_with fail
              refine ⟨⟨j + 1, _, by omega, nxt, by congr 1, rfl, kk, hV2⟩, by simp [intOf]; omega⟩
            · have hs2 : O.size = mm + 1 := by rw [hO.out]; show (outAt G (lo, hi2) j).toArray.size = _; rw [List.size_toArray, hzl]
              have he := emp_false (s := O) (by omega)
              have hzb : O[mm]'(by omega) = z := by
                have h1 := get_byte O mm (by omega)
                have h2 : O.data.toList = outAt G (lo, hi2) j := by rw [hO.out]
                rw [h2, hz] at h1
                exact (Option.some.inj h1).symm
              have hix : ((O.size : Int) - 1) = (mm : Int) := by omega
              rcases hs with ⟨hz58, hs⟩ | ⟨hz58, hs⟩
              · have hb : ((O[mm]'(by omega)).toNat : Int) = 58 := by rw [hzb, hz58]; rfl
                have hb2 : (((O[mm]'(by omega)).toNat : Int) != 58) = false := by rw [hb]; rfl
                have kk := Lib.hid (key.out O (by rw [hs]; exact hO.out))
                have hsum : O.size + (⟨(hexI (x * 256 + y)).toArray⟩ : ByteArray).size ≤ 9223372036854775807 := by omega
                replace hhs := Lib.hid hhs
                replace hsum := Lib.hid hsum
                clear hs key hb hzb hz hzl
                go_wp2_with fail
                refine wp_region_C (C := Bz w [(w.heap.size, oA a)]) (by kernel_rfl) (by kernel_rfl) (bx.drew) ?_
                refine wpQuiet_hide ?_
                intro lq hlq
                refine wpQuiet_step_h hlq ?_
                clear hlq lq
                intro K lq hlq hK
                refine wanted_go (by rfl) ?_
                refine ⟨?_, fun W hW => ?_, ?_⟩
                rotate_left
                · skip
                  go_simp
                  with_reducible rfl
                refine hK _ ?_
                clear hK K
                (try simp only [Act.put, List.setIfInBounds_toArray, List.set_cons_zero, List.set_cons_succ])
                refine wpQuiet_step_h hlq ?_
                clear hlq lq
                intro K lq hlq hK
                refine wanted_go (by rfl) ?_
                refine ⟨?_, fun W hW => ?_, ?_⟩
                rotate_left
                · skip
                  go_simp
                  with_reducible rfl
                refine hK _ ?_
                clear hK K
                (try simp only [Act.put, List.setIfInBounds_toArray, List.set_cons_zero, List.set_cons_succ])
                refine wpQuiet_step_h hlq ?_
                clear hlq lq
                intro K lq hlq hK
                refine wanted_go (by rfl) ?_
                refine ⟨?_, fun W hW => ?_, ?_⟩
                rotate_left
                · skip
                  go_simp
                  with_reducible rfl
                refine hK _ ?_
                clear hK K
                (try simp only [Act.put, List.setIfInBounds_toArray, List.set_cons_zero, List.set_cons_succ])
                refine wpQuiet_step_h hlq ?_
                clear hlq lq
                intro K lq hlq hK
                refine wanted_go (by rfl) ?_
                refine ⟨?_, fun W hW => ?_, ?_⟩
                rotate_left
                · skip
                  go_simp
                  with_reducible rfl
                refine hK _ ?_
                clear hK K
                (try simp only [Act.put, List.setIfInBounds_toArray, List.set_cons_zero, List.set_cons_succ])
                refine wpQuiet_step_h hlq ?_
                clear hlq lq
                intro K lq hlq hK
                refine wanted_go (by rfl) ?_
                refine ⟨.int .u8 x, fun W hW => ?_, ?_⟩
                · skip
                  rw [← hx2.out]; exact quiet_load 5 _ rfl rfl (ldAi (i := 2 * j) (by omega) (hW.all.get 0 (x := (w.heap.size, oA a)) rfl) Ha.out)
                refine hK _ ?_
                clear hK K
                (try simp only [Act.put, List.setIfInBounds_toArray, List.set_cons_zero, List.set_cons_succ])
                refine wpQuiet_step_h hlq ?_
                clear hlq lq
                intro K lq hlq hK
                refine wanted_go (by rfl) ?_
                refine ⟨?_, fun W hW => ?_, ?_⟩
                rotate_left
                · skip
                  go_simp
                  with_reducible rfl
                refine hK _ ?_
                clear hK K
                (try simp only [Act.put, List.setIfInBounds_toArray, List.set_cons_zero, List.set_cons_succ])
                refine wpQuiet_step_h hlq ?_
                clear hlq lq
                intro K lq hlq hK
                refine wanted_go (by rfl) ?_
                refine ⟨?_, fun W hW => ?_, ?_⟩
                rotate_left
                · skip
                  go_simp
                  with_reducible rfl
                refine hK _ ?_
                clear hK K
                (try simp only [Act.put, List.setIfInBounds_toArray, List.set_cons_zero, List.set_cons_succ])
                refine wpQuiet_step_h hlq ?_
                clear hlq lq
                intro K lq hlq hK
                refine wanted_go (by rfl) ?_
                refine ⟨?_, fun W hW => ?_, ?_⟩
                rotate_left
                · skip
                  go_simp
                  with_reducible rfl
                refine hK _ ?_
                clear hK K
                (try simp only [Act.put, List.setIfInBounds_toArray, List.set_cons_zero, List.set_cons_succ])
                refine wpQuiet_step_h hlq ?_
                clear hlq lq
                intro K lq hlq hK
                refine wanted_go (by rfl) ?_
                refine ⟨?_, fun W hW => ?_, ?_⟩
                rotate_left
                · skip
                  go_simp
                  with_reducible rfl
                refine hK _ ?_
                clear hK K
                (try simp only [Act.put, List.setIfInBounds_toArray, List.set_cons_zero, List.set_cons_succ])
                refine wpQuiet_step_h hlq ?_
                clear hlq lq
                intro K lq hlq hK
                refine wanted_go (by rfl) ?_
                refine ⟨?_, fun W hW => ?_, ?_⟩
                rotate_left
                · skip
                  go_simp
                  with_reducible rfl
                refine hK _ ?_
                clear hK K
                (try simp only [Act.put, List.setIfInBounds_toArray, List.set_cons_zero, List.set_cons_succ])
                refine wpQuiet_step_h hlq ?_
                clear hlq lq
                intro K lq hlq hK
                refine wanted_go (by rfl) ?_
                refine ⟨?_, fun W hW => ?_, ?_⟩
                rotate_left
                · skip
                  go_simp
                  with_reducible rfl
                refine hK _ ?_
                clear hK K
                (try simp only [Act.put, List.setIfInBounds_toArray, List.set_cons_zero, List.set_cons_succ])
                refine wpQuiet_step_h hlq ?_
                clear hlq lq
                intro K lq hlq hK
                refine wanted_go (by rfl) ?_
                refine ⟨.int .u8 y, fun W hW => ?_, ?_⟩
                · skip
                  rw [← hy2.out]; exact quiet_load 5 _ rfl rfl (ldAi (i := 2 * j + 1) (by omega) (hW.all.get 0 (x := (w.heap.size, oA a)) rfl) Ha.out)
                refine hK _ ?_
                clear hK K
                (try simp only [Act.put, List.setIfInBounds_toArray, List.set_cons_zero, List.set_cons_succ])
                refine wpQuiet_step_h hlq ?_
                clear hlq lq
                intro K lq hlq hK
                refine wanted_go (by rfl) ?_
                refine ⟨?_, fun W hW => ?_, ?_⟩
                rotate_left
                · skip
                  go_simp
                  with_reducible rfl
                refine hK _ ?_
                clear hK K
                (try simp only [Act.put, List.setIfInBounds_toArray, List.set_cons_zero, List.set_cons_succ])
                refine wpQuiet_step_h hlq ?_
                clear hlq lq
                intro K lq hlq hK
                refine wanted_go (by rfl) ?_
                refine ⟨?_, fun W hW => ?_, ?_⟩
                rotate_left
                · skip
                  go_simp
                  with_reducible rfl
                refine hK _ ?_
                clear hK K
                (try simp only [Act.put, List.setIfInBounds_toArray, List.set_cons_zero, List.set_cons_succ])
                refine wpQuiet_step_h hlq ?_
                clear hlq lq
                intro K lq hlq hK
                refine wanted_go (by rfl) ?_
                refine ⟨.string ⟨(hexI (x * 256 + y)).toArray⟩, fun W hW => ?_, ?_⟩
                · go_simp
                  exact (hexes_call (by omega) (by omega)).mono fun e W2 hc2 => ⟨hc2.1, hW.go hc2.2⟩
                refine hK _ ?_
                clear hK K
                (try simp only [Act.put, List.setIfInBounds_toArray, List.set_cons_zero, List.set_cons_succ])
                refine wpQuiet_step_h hlq ?_
                clear hlq lq
                intro K lq hlq hK
                refine wanted_go (by rfl) ?_
                refine ⟨.string (O ++ ⟨(hexI (x * 256 + y)).toArray⟩), fun W hW => ?_, ?_⟩
                · skip
                  exact quiet_add rfl rfl rfl (ba_add W _ _ hsum.out)
                refine hK _ ?_
                clear hK K
                (try simp only [Act.put, List.setIfInBounds_toArray, List.set_cons_zero, List.set_cons_succ])
                refine wpQuiet_step_h hlq ?_
                clear hlq lq
                intro K lq hlq hK
                refine wanted_go (by rfl) ?_
                refine ⟨?_, fun W hW => ?_, ?_⟩
                rotate_left
                · skip
                  go_simp
                  with_reducible rfl
                refine hK _ ?_
                clear hK K
                (try simp only [Act.put, List.setIfInBounds_toArray, List.set_cons_zero, List.set_cons_succ])
                refine wpQuiet_nil_h hlq ?_
                clear hlq lq bx
                intro V1 hV2
                go_wp2_with fail
                refine ⟨⟨j + 1, _, by omega, nxt, by congr 1, rfl, kk, hV2⟩, by simp [intOf]; omega⟩
              · have hb : ((O[mm]'(by omega)).toNat : Int) ≠ 58 := by
                  rw [hzb]; intro e; exact hz58 (UInt8.toNat_inj.1 (by have : (58 : UInt8).toNat = 58 := rfl; omega))
                have hb2 : (((O[mm]'(by omega)).toNat : Int) != 58) = true := by simpa using hb
                have kk := Lib.hid (key.out (O ++ (⟨#[58]⟩ : ByteArray)) (by
                  rw [hs, hO.out]
                  show (⟨(outAt G (lo, hi2) j).toArray⟩ : ByteArray) ++ ⟨#[58]⟩ = _
                  apply ByteArray.ext; simp))
                have hsum : (O ++ (⟨#[58]⟩ : ByteArray)).size + (⟨(hexI (x * 256 + y)).toArray⟩ : ByteArray).size ≤ 9223372036854775807 := by
                  have h1 : (O ++ (⟨#[58]⟩ : ByteArray)).size = O.size + 1 := by rw [ByteArray.size_append]; rfl
                  omega
                replace hhs := Lib.hid hhs
                replace hsum := Lib.hid hsum
                clear hs key hb hzb hz hzl
                go_wp2_with fail
                refine wp_region_C (C := Bz w [(w.heap.size, oA a)]) (by kernel_rfl) (by kernel_rfl) (bx.drew) ?_
                refine wpQuiet_hide ?_
                intro lq hlq
                refine wpQuiet_step_h hlq ?_
                clear hlq lq
                intro K lq hlq hK
                refine wanted_go (by rfl) ?_
                refine ⟨?_, fun W hW => ?_, ?_⟩
                rotate_left
                · skip
                  go_simp
                  with_reducible rfl
                refine hK _ ?_
                clear hK K
                (try simp only [Act.put, List.setIfInBounds_toArray, List.set_cons_zero, List.set_cons_succ])
                refine wpQuiet_step_h hlq ?_
                clear hlq lq
                intro K lq hlq hK
                refine wanted_go (by rfl) ?_
                refine ⟨?_, fun W hW => ?_, ?_⟩
                rotate_left
                · skip
                  go_simp
                  with_reducible rfl
                refine hK _ ?_
                clear hK K
                (try simp only [Act.put, List.setIfInBounds_toArray, List.set_cons_zero, List.set_cons_succ])
                refine wpQuiet_step_h hlq ?_
                clear hlq lq
                intro K lq hlq hK
                refine wanted_go (by rfl) ?_
                refine ⟨?_, fun W hW => ?_, ?_⟩
                rotate_left
                · skip
                  go_simp
                  with_reducible rfl
                refine hK _ ?_
                clear hK K
                (try simp only [Act.put, List.setIfInBounds_toArray, List.set_cons_zero, List.set_cons_succ])
                refine wpQuiet_step_h hlq ?_
                clear hlq lq
                intro K lq hlq hK
                refine wanted_go (by rfl) ?_
                refine ⟨?_, fun W hW => ?_, ?_⟩
                rotate_left
                · skip
                  go_simp
                  with_reducible rfl
                refine hK _ ?_
                clear hK K
                (try simp only [Act.put, List.setIfInBounds_toArray, List.set_cons_zero, List.set_cons_succ])
                refine wpQuiet_step_h hlq ?_
                clear hlq lq
                intro K lq hlq hK
                refine wanted_go (by rfl) ?_
                refine ⟨.int .u8 x, fun W hW => ?_, ?_⟩
                · skip
                  rw [← hx2.out]; exact quiet_load 5 _ rfl rfl (ldAi (i := 2 * j) (by omega) (hW.all.get 0 (x := (w.heap.size, oA a)) rfl) Ha.out)
                refine hK _ ?_
                clear hK K
                (try simp only [Act.put, List.setIfInBounds_toArray, List.set_cons_zero, List.set_cons_succ])
                refine wpQuiet_step_h hlq ?_
                clear hlq lq
                intro K lq hlq hK
                refine wanted_go (by rfl) ?_
                refine ⟨?_, fun W hW => ?_, ?_⟩
                rotate_left
                · skip
                  go_simp
                  with_reducible rfl
                refine hK _ ?_
                clear hK K
                (try simp only [Act.put, List.setIfInBounds_toArray, List.set_cons_zero, List.set_cons_succ])
                refine wpQuiet_step_h hlq ?_
                clear hlq lq
                intro K lq hlq hK
                refine wanted_go (by rfl) ?_
                refine ⟨?_, fun W hW => ?_, ?_⟩
                rotate_left
                · skip
                  go_simp
                  with_reducible rfl
                refine hK _ ?_
                clear hK K
                (try simp only [Act.put, List.setIfInBounds_toArray, List.set_cons_zero, List.set_cons_succ])
                refine wpQuiet_step_h hlq ?_
                clear hlq lq
                intro K lq hlq hK
                refine wanted_go (by rfl) ?_
                refine ⟨?_, fun W hW => ?_, ?_⟩
                rotate_left
                · skip
                  go_simp
                  with_reducible rfl
                refine hK _ ?_
                clear hK K
                (try simp only [Act.put, List.setIfInBounds_toArray, List.set_cons_zero, List.set_cons_succ])
                refine wpQuiet_step_h hlq ?_
                clear hlq lq
                intro K lq hlq hK
                refine wanted_go (by rfl) ?_
                refine ⟨?_, fun W hW => ?_, ?_⟩
                rotate_left
                · skip
                  go_simp
                  with_reducible rfl
                refine hK _ ?_
                clear hK K
                (try simp only [Act.put, List.setIfInBounds_toArray, List.set_cons_zero, List.set_cons_succ])
                refine wpQuiet_step_h hlq ?_
                clear hlq lq
                intro K lq hlq hK
                refine wanted_go (by rfl) ?_
                refine ⟨?_, fun W hW => ?_, ?_⟩
                rotate_left
                · skip
                  go_simp
                  with_reducible rfl
                refine hK _ ?_
                clear hK K
                (try simp only [Act.put, List.setIfInBounds_toArray, List.set_cons_zero, List.set_cons_succ])
                refine wpQuiet_step_h hlq ?_
                clear hlq lq
                intro K lq hlq hK
                refine wanted_go (by rfl) ?_
                refine ⟨?_, fun W hW => ?_, ?_⟩
                rotate_left
                · skip
                  go_simp
                  with_reducible rfl
                refine hK _ ?_
                clear hK K
                (try simp only [Act.put, List.setIfInBounds_toArray, List.set_cons_zero, List.set_cons_succ])
                refine wpQuiet_step_h hlq ?_
                clear hlq lq
                intro K lq hlq hK
                refine wanted_go (by rfl) ?_
                refine ⟨.int .u8 y, fun W hW => ?_, ?_⟩
                · skip
                  rw [← hy2.out]; exact quiet_load 5 _ rfl rfl (ldAi (i := 2 * j + 1) (by omega) (hW.all.get 0 (x := (w.heap.size, oA a)) rfl) Ha.out)
                refine hK _ ?_
                clear hK K
                (try simp only [Act.put, List.setIfInBounds_toArray, List.set_cons_zero, List.set_cons_succ])
                refine wpQuiet_step_h hlq ?_
                clear hlq lq
                intro K lq hlq hK
                refine wanted_go (by rfl) ?_
                refine ⟨?_, fun W hW => ?_, ?_⟩
                rotate_left
                · skip
                  go_simp
                  with_reducible rfl
                refine hK _ ?_
                clear hK K
                (try simp only [Act.put, List.setIfInBounds_toArray, List.set_cons_zero, List.set_cons_succ])
                refine wpQuiet_step_h hlq ?_
                clear hlq lq
                intro K lq hlq hK
                refine wanted_go (by rfl) ?_
                refine ⟨?_, fun W hW => ?_, ?_⟩
                rotate_left
                · skip
                  go_simp
                  with_reducible rfl
                refine hK _ ?_
                clear hK K
                (try simp only [Act.put, List.setIfInBounds_toArray, List.set_cons_zero, List.set_cons_succ])
                refine wpQuiet_step_h hlq ?_
                clear hlq lq
                intro K lq hlq hK
                refine wanted_go (by rfl) ?_
                refine ⟨.string ⟨(hexI (x * 256 + y)).toArray⟩, fun W hW => ?_, ?_⟩
                · go_simp
                  exact (hexes_call (by omega) (by omega)).mono fun e W2 hc2 => ⟨hc2.1, hW.go hc2.2⟩
                refine hK _ ?_
                clear hK K
                (try simp only [Act.put, List.setIfInBounds_toArray, List.set_cons_zero, List.set_cons_succ])
                refine wpQuiet_step_h hlq ?_
                clear hlq lq
                intro K lq hlq hK
                refine wanted_go (by rfl) ?_
                refine ⟨.string ((O ++ (⟨#[58]⟩ : ByteArray)) ++ ⟨(hexI (x * 256 + y)).toArray⟩), fun W hW => ?_, ?_⟩
                · skip
                  exact quiet_add rfl rfl rfl (ba_add W _ _ hsum.out)
                refine hK _ ?_
                clear hK K
                (try simp only [Act.put, List.setIfInBounds_toArray, List.set_cons_zero, List.set_cons_succ])
                refine wpQuiet_step_h hlq ?_
                clear hlq lq
                intro K lq hlq hK
                refine wanted_go (by rfl) ?_
                refine ⟨?_, fun W hW => ?_, ?_⟩
                rotate_left
                · skip
                  go_simp
                  with_reducible rfl
                refine hK _ ?_
                clear hK K
                (try simp only [Act.put, List.setIfInBounds_toArray, List.set_cons_zero, List.set_cons_succ])
                refine wpQuiet_nil_h hlq ?_
                clear hlq lq bx
                intro V1 hV2
                go_wp2_with fail
                refine ⟨⟨j + 1, _, by omega, nxt, by congr 1, rfl, kk, hV2⟩, by simp [intOf]; omega⟩
        · obtain rfl : j = 8 := by omega
          rw [hO.out, hall.out]
          go_wp2
          go_ret
          exact ⟨rfl, bx.bel⟩
end Go.Proofs.YtnljjlaececnkaaGreatDoor
/-
  The document's prefix of an address's first bits, and a prefix's text. No condition.
-/
namespace Go.Proofs.YtnljjlaececnkaaGreatDoor
open Go.RowKit
set_option linter.unusedVariables false
set_option linter.unusedSimpArgs false
set_option maxRecDepth 100000 in
set_option maxHeartbeats 1600000 in
theorem rof_with {w : World} {a : List Int} (ha : isA a) {f off most : Int} (hf : fam a = f) (ho : offOf f = off) (hfo : f = 4 ∧ off = 96 ∧ most = 32 ∨ f = 6 ∧ off = 0 ∧ most = 128) (n : Int) : Calls Tryz.prog 62 #[vA a, .int .i64 n] w fun e w' => OfR (ofP a n) e ∧ Below w.heap.size w w' := by
  have h0 := Lib.hid (box21 w (oA a) (oP zeroP))
  have h1 := Lib.hid (box22 w (oA a) (oP zeroP))
  have bel0 : Below w.heap.size w ((w.alloc (oA a)).alloc (oP zeroP)) := ((Below.refl _ _).alloc (Nat.le_refl _) _).alloc (by simp) _
  have hc := fun W => rfam_any (w := W) ha
  rw [hf] at hc
  have hmo : most = 128 - off := by rcases hfo with ⟨_, h1, h2⟩ | ⟨_, h1, h2⟩ <;> omega
  have HA := Lib.hid ha
  by_cases hbad : n < 0 ∨ most < n
  · have hr : ofP a n = none := by unfold ofP; rw [hf, ho, if_neg (by omega)]
    rw [hr]
    have hres : Hid (OfR none (.returned (.tuple #[vPf zeroP, .int .i64 2]))) := Lib.hid rfl
    clear hr ho hmo
    rcases hfo with ⟨rfl, rfl, rfl⟩ | ⟨rfl, rfl, rfl⟩
    all_goals
      rcases hbad with hb | hb
    all_goals
      have d1 : decide (n < 0) = true ∨ decide (n < 0) = false := by cases decide (n < 0) <;> simp
      unfold vA
      go_enter Tryz.func62, Tryz.ntmps62
      go_wp2_with (first
        | (refine wpList_load_mid rfl 42 (.tmp 2) rfl w.heap.size 0 rfl (nums .u8 a) _ (row_load h0.out) Tryz.underlying42 rfl (info42 HA.out) ?_)
        | (go_at_call 33; refine (hc _).mono ?_; clear hc; rintro e w2 ⟨rfl, bel2⟩; have bel := bel0.trans (bel2.mono bel0.size); have h2 := Lib.hid (Below.box h1.out bel2 (lt_of_obj h1.out)))
        | (refine wpList_store_row rfl 55 (.tmp 4) (.tmp 18) rfl (w.heap.size + 1) (pCs zeroA 0).toArray rfl rfl 55 (pCs zeroA 0).toArray h2.out (info55 zeroA_ok _) rfl (pCs_one _ _) ?_))
    all_goals
      refine bodyPost_ret (v := .tuple #[vPf zeroP, .int .i64 2]) ?_ rfl ⟨hres.out, below_row bel (by omega) _⟩
      exact results_cell_tmp rfl _ _ rfl (BoxP.run (p := zeroP) (setRow_heap _ _ _ _ _ _ h2.out) zeroA_ok).2.2 rfl
  · have hn0 : 0 ≤ n := by omega
    have hn1 : n ≤ most := by omega
    have hr : ofP a n = some ⟨msk a (off + n), off + n⟩ := by unfold ofP; rw [hf, ho, if_pos ⟨hn0, by omega⟩]
    rw [hr]
    have d1 : decide (n < 0) = false := decide_eq_false (by omega)
    have d2 : decide (most < n) = false := decide_eq_false (by omega)
    have hoff : 0 ≤ off := by rcases hfo with ⟨_, h1, h2⟩ | ⟨_, h1, h2⟩ <;> omega
    have hm := fun W => rmaskI_any (w := W) ha (n := off + n) (by omega) (by omega)
    have ok := Lib.hid (isA_msk ha (off + n))
    have hw : IntKind.i64.wrap (off + n) = off + n := IntWalk.i64_in _ (by omega)
    have hres : Hid (OfR (some ⟨msk a (off + n), off + n⟩) (.returned (.tuple #[vPf ⟨msk a (off + n), off + n⟩, .int .i64 0]))) := Lib.hid rfl
    clear hr ho hbad hmo hn1 hoff
    obtain ⟨N, hN⟩ : ∃ N, off + n = N := ⟨_, rfl⟩
    have hw2 : off + n = N := hN
    rw [hN] at hm ok hres
    rw [hw2] at hw ⊢
    have hwN : IntKind.i64.wrap (off + n) = N := by rw [hN]; exact hw
    replace hN := Lib.hid hN
    clear hw hw2
    generalize msk a N = m at *
    rcases hfo with ⟨rfl, rfl, rfl⟩ | ⟨rfl, rfl, rfl⟩
    all_goals
      (try rw [Int.zero_add] at hwN)
      (try have hN2 : n = N := by have := hN.out; omega)
      (try replace hN2 := Lib.hid hN2)
      unfold vA
      go_enter Tryz.func62, Tryz.ntmps62
      go_upto_region 6 with (first
        | (refine wpList_load_mid rfl 42 (.tmp 2) rfl w.heap.size 0 rfl (nums .u8 a) _ (row_load h0.out) Tryz.underlying42 rfl (info42 HA.out) ?_)
        | (go_at_call 33; refine (hc _).mono ?_; clear hc; rintro e w2 ⟨rfl, bel2⟩; have bel := bel0.trans (bel2.mono bel0.size); have h2 := Lib.hid (Below.box h1.out bel2 (lt_of_obj h1.out)); have h3 := Lib.hid (Below.box h0.out bel2 (lt_of_obj h0.out)); have hbx : Bx w w.heap.size [(w.heap.size, oA a), (w.heap.size + 1, oP zeroP)] w2 := ⟨bel, ⟨h3.out, h2.out, trivial⟩, bel.size⟩))
      go_wp2_with (refine wpList_quiet_take (C := Bx w w.heap.size [(w.heap.size, oA a), (w.heap.size + 1, oP zeroP)]) 11 9 (by rfl) (hbx) ?_)
      (try simp only [List.take_succ_cons, List.take_zero, List.drop_succ_cons, List.drop_zero])
      refine wpQuiet_hide ?_
      intro lq hlq
      refine wpQuiet_step_h hlq ?_
      clear hlq lq
      intro K lq hlq hK
      refine wanted_go (by rfl) ?_
      refine ⟨vA a, fun W hW => ?_, ?_⟩
      · have q := BoxA.run hW.2.1.1 HA.out
        exact quiet_load 42 _ rfl rfl q
      refine hK _ ?_
      clear hK K
      (try simp only [Act.put, List.setIfInBounds_toArray, List.set_cons_zero, List.set_cons_succ])
      refine wpQuiet_step_h hlq ?_
      clear hlq lq
      intro K lq hlq hK
      refine wanted_go (by rfl) ?_
      refine ⟨?_, fun W hW => ?_, ?_⟩
      rotate_left
      · have q := BoxA.run hW.2.1.1 HA.out
        go_simp
        with_reducible rfl
      refine hK _ ?_
      clear hK K
      (try simp only [Act.put, List.setIfInBounds_toArray, List.set_cons_zero, List.set_cons_succ])
      refine wpQuiet_step_h hlq ?_
      clear hlq lq
      intro K lq hlq hK
      refine wanted_go (by rfl) ?_
      refine ⟨?_, fun W hW => ?_, ?_⟩
      rotate_left
      · have q := BoxA.run hW.2.1.1 HA.out
        go_simp
        with_reducible rfl
      refine hK _ ?_
      clear hK K
      (try simp only [Act.put, List.setIfInBounds_toArray, List.set_cons_zero, List.set_cons_succ])
      refine wpQuiet_step_h hlq ?_
      clear hlq lq
      intro K lq hlq hK
      refine wanted_go (by rfl) ?_
      refine ⟨?_, fun W hW => ?_, ?_⟩
      rotate_left
      · have q := BoxA.run hW.2.1.1 HA.out
        go_simp
        with_reducible rfl
      refine hK _ ?_
      clear hK K
      (try simp only [Act.put, List.setIfInBounds_toArray, List.set_cons_zero, List.set_cons_succ])
      refine wpQuiet_step_h hlq ?_
      clear hlq lq
      intro K lq hlq hK
      refine wanted_go (by rfl) ?_
      refine ⟨vA m, fun W hW => ?_, ?_⟩
      · go_simp
        refine (hm _).mono fun e W2 hc2 => ⟨hc2.1, hW.go hc2.2⟩
      refine hK _ ?_
      clear hK K
      (try simp only [Act.put, List.setIfInBounds_toArray, List.set_cons_zero, List.set_cons_succ])
      refine wpQuiet_step_h hlq ?_
      clear hlq lq
      intro K lq hlq hK
      refine wanted_go (by rfl) ?_
      refine ⟨?_, fun W hW => ?_, ?_⟩
      rotate_left
      · have q := BoxA.run hW.2.1.1 HA.out
        go_simp
        with_reducible rfl
      refine hK _ ?_
      clear hK K
      (try simp only [Act.put, List.setIfInBounds_toArray, List.set_cons_zero, List.set_cons_succ])
      refine wpQuiet_step_h hlq ?_
      clear hlq lq
      intro K lq hlq hK
      refine wanted_go (by rfl) ?_
      refine ⟨?_, fun W hW => ?_, ?_⟩
      rotate_left
      · have q := BoxA.run hW.2.1.1 HA.out
        go_simp
        with_reducible rfl
      refine hK _ ?_
      clear hK K
      (try simp only [Act.put, List.setIfInBounds_toArray, List.set_cons_zero, List.set_cons_succ])
      refine wpQuiet_step_h hlq ?_
      clear hlq lq
      intro K lq hlq hK
      refine wanted_go (by rfl) ?_
      refine ⟨?_, fun W hW => ?_, ?_⟩
      rotate_left
      · have q := BoxA.run hW.2.1.1 HA.out
        go_simp
        with_reducible rfl
      refine hK _ ?_
      clear hK K
      (try simp only [Act.put, List.setIfInBounds_toArray, List.set_cons_zero, List.set_cons_succ])
      refine wpQuiet_step_h hlq ?_
      clear hlq lq
      intro K lq hlq hK
      refine wanted_go (by rfl) ?_
      refine ⟨.agg (pCs m N).toArray, fun W hW => ?_, ?_⟩
      · have q := BoxA.run hW.2.1.1 HA.out
        exact quiet_build2 (x := .tmp 23) (y := .tmp 26) (vx := .agg (nums .u8 m).toArray) (vy := .int .i64 N) rfl rfl rfl (built55 (a := m) (n := N) ok.out)
      refine hK _ ?_
      clear hK K
      (try simp only [Act.put, List.setIfInBounds_toArray, List.set_cons_zero, List.set_cons_succ])
      refine wpQuiet_nil_h hlq ?_
      clear hlq lq
      intro W5 B5
      have bel5 := B5.1
      have h5 := Lib.hid B5.2.1.2.1
      go_wp2_with (refine wpList_store_row rfl 55 (.tmp 4) (.tmp 27) rfl (w.heap.size + 1) (pCs m N).toArray rfl rfl 55 (pCs zeroA 0).toArray h5.out (info55 ok.out _) (by rw [pCs_size zeroA_ok, pCs_size ok.out]) (pCs_one _ _) ?_)
      refine bodyPost_ret (v := .tuple #[vPf ⟨m, N⟩, .int .i64 0]) ?_ rfl ⟨hres.out, below_row bel5 (by omega) _⟩
      exact results_cell_tmp rfl _ _ rfl (BoxP.run (p := ⟨m, N⟩) (setRow_heap _ _ _ _ _ _ h5.out) ok.out).2.2 rfl
theorem rof_any {w : World} {a : List Int} (ha : isA a) (n : Int) : Calls Tryz.prog 62 #[vA a, .int .i64 n] w fun e w' => OfR (ofP a n) e ∧ Below w.heap.size w w' := by
  rcases fam_or a with h | h
  · exact rof_with ha h rfl (.inl ⟨rfl, rfl, rfl⟩) n
  · exact rof_with ha h rfl (.inr ⟨rfl, rfl, rfl⟩) n
end Go.Proofs.YtnljjlaececnkaaGreatDoor
/-
  PrintPrefix, Specific, PrintPair. Condition: the variables hold what their initialisers laid.
-/
namespace Go.Proofs.YtnljjlaececnkaaGreatDoor
open Go.RowKit
set_option linter.unusedVariables false
set_option linter.unusedSimpArgs false
theorem chk_call {w : World} {p : Pf} (hp : p.ok) {n : Int} (h : (if chk p then (0 : Int) else 21) = n) : Calls Tryz.prog 38 #[vPf p] w fun e w' => e = .returned (.int .i64 n) ∧ Below w.heap.size w w' := (check_any hp).mono fun e w' h' => ⟨by rw [h'.1, ← h]; rfl, h'.2⟩
theorem chkPP_call {w : World} {p : Pr} (hp : p.fit) {n : Int} (h : (if chkPP p then (0 : Int) else 21) = n) : Calls Tryz.prog 60 #[vPP p] w fun e w' => e = .returned (.int .i64 n) ∧ Below w.heap.size w w' := (chkPP_any hp).mono fun e w' h' => ⟨by rw [h'.1, ← h]; rfl, h'.2⟩
theorem pfam_call {w : World} {p : Pf} (hp : p.ok) {n : Int} (h : pfam p = n) : Calls Tryz.prog 54 #[vPf p] w fun e w' => e = .returned (.int .i64 n) ∧ Below w.heap.size w w' := (pfam_any hp).mono fun e w' h' => ⟨by rw [h'.1, h], h'.2⟩
theorem grouped_len {a : List Int} (ha : isA a) : (groupedS a).length ≤ 100 := by rw [← outAt_all]; exact groupedS_len ha 8 (Nat.le_refl _)
theorem dotted_len {a : List Int} (ha : isA a) : (dottedS a).length ≤ 100 := by
  rw [dotted_getD ha]
  obtain ⟨x, -, hx, x0, x1⟩ := isA_getD ha (j := 12) (by decide)
  obtain ⟨y, -, hy, y0, y1⟩ := isA_getD ha (j := 13) (by decide)
  obtain ⟨z, -, hz, z0, z1⟩ := isA_getD ha (j := 14) (by decide)
  obtain ⟨t, -, ht, t0, t1⟩ := isA_getD ha (j := 15) (by decide)
  rw [hx, hy, hz, ht]
  have lx := itoa_len x x0 (by omega)
  have ly := itoa_len y y0 (by omega)
  have lz := itoa_len z z0 (by omega)
  have lt := itoa_len t t0 (by omega)
  simp; omega
theorem pfx_len {p : Pf} (hp : isA p.a) : (pfxS p).length ≤ 130 := by
  cases h : chk p with
  | false => rw [pfx_no h]; simp
  | true =>
    obtain ⟨h0, h1⟩ := chk_rng h
    rw [pfx_yes h]
    split
    · rename_i h4
      have := dotted_len hp
      have := itoa_len (p.n - 96) (by have := (pfam4 h4).1; omega) (by omega)
      simp; omega
    · have := grouped_len hp
      have := itoa_len p.n h0 (by omega)
      simp; omega
theorem pfam_or (p : Pf) : pfam p = 4 ∨ pfam p = 6 := by
  unfold pfam
  split
  · exact .inr rfl
  · exact fam_or p.a
set_option maxRecDepth 100000 in
set_option maxHeartbeats 1600000 in
theorem pfx_4 {w : World} (E : Env w) {p : Pf} (hp : p.ok) (hc : chk p = true) (h4 : pfam p = 4) : Calls Tryz.prog 57 #[vPf p] w fun e w' => e = .returned (.string ⟨(pfxS p).toArray⟩) ∧ Below w.heap.size w w' := by
  have hr : pfxS p = dottedS p.a ++ [47] ++ Lib.itoa (p.n - 96) := by rw [pfx_yes hc, if_pos h4]; simp
  have B := ((Bz.start w).alloc (oP p) rfl : Bz w [(w.heap.size, oP p)] _)
  have Hp := Lib.hid hp
  have c1 : (if chk p then (0 : Int) else 21) = 0 := by rw [hc]; rfl
  obtain ⟨n0, n1⟩ := chk_rng hc
  have n2 := (pfam4 h4).1
  have l0 := dotted_len hp.1
  have l1 := itoa_len (p.n - 96) (by omega) (by omega)
  have s1 : (dottedS p.a).length + ([47] : List UInt8).length ≤ 9223372036854775807 := by simp; omega
  have s2 : (dottedS p.a ++ [47]).length + (Lib.itoa (p.n - 96)).length ≤ 9223372036854775807 := by simp; omega
  have w1 : IntKind.i64.wrap (p.n - 96) = p.n - 96 := IntWalk.i64_in _ (by omega)
  replace hr := Lib.hid hr
  replace c1 := Lib.hid c1
  replace h4 := Lib.hid h4
  replace s1 := Lib.hid s1
  replace s2 := Lib.hid s2
  clear hp hc l0 l1
  unfold vPf
  go_enter Tryz.func57, Tryz.ntmps57
  go_wp2_with (refine wpList_quiet (C := Bz w [(w.heap.size, oP p)]) 3 (by rfl) B ?_)
  refine wpQuiet_hide ?_
  intro lq hlq
  refine wpQuiet_step_h hlq ?_
  clear hlq lq
  intro K lq hlq hK
  refine wanted_go (by rfl) ?_
  refine ⟨vPf p, fun W hW => ?_, ?_⟩
  · skip
    exact quiet_load 55 _ rfl rfl (ldP (hW.all.get 0 (x := (w.heap.size, oP p)) rfl) Hp.out)
  refine hK _ ?_
  clear hK K
  (try simp only [Act.put, List.setIfInBounds_toArray, List.set_cons_zero, List.set_cons_succ])
  refine wpQuiet_step_h hlq ?_
  clear hlq lq
  intro K lq hlq hK
  refine wanted_go (by rfl) ?_
  refine ⟨.int .i64 0, fun W hW => ?_, ?_⟩
  · go_simp
    exact (chk_call Hp.out c1.out).mono fun e W2 hc2 => ⟨hc2.1, hW.go hc2.2⟩
  refine hK _ ?_
  clear hK K
  (try simp only [Act.put, List.setIfInBounds_toArray, List.set_cons_zero, List.set_cons_succ])
  refine wpQuiet_step_h hlq ?_
  clear hlq lq
  intro K lq hlq hK
  refine wanted_go (by rfl) ?_
  refine ⟨?_, fun W hW => ?_, ?_⟩
  rotate_left
  · skip
    go_simp
    with_reducible rfl
  refine hK _ ?_
  clear hK K
  (try simp only [Act.put, List.setIfInBounds_toArray, List.set_cons_zero, List.set_cons_succ])
  refine wpQuiet_nil_h hlq ?_
  clear hlq lq B
  intro V1 hV2
  go_wp2_with (refine wpList_quiet (C := Bz w [(w.heap.size, oP p)]) 3 (by rfl) hV2 ?_)
  refine wpQuiet_hide ?_
  intro lq hlq
  refine wpQuiet_step_h hlq ?_
  clear hlq lq
  intro K lq hlq hK
  refine wanted_go (by rfl) ?_
  refine ⟨vPf p, fun W hW => ?_, ?_⟩
  · skip
    exact quiet_load 55 _ rfl rfl (ldP (hW.all.get 0 (x := (w.heap.size, oP p)) rfl) Hp.out)
  refine hK _ ?_
  clear hK K
  (try simp only [Act.put, List.setIfInBounds_toArray, List.set_cons_zero, List.set_cons_succ])
  refine wpQuiet_step_h hlq ?_
  clear hlq lq
  intro K lq hlq hK
  refine wanted_go (by rfl) ?_
  refine ⟨.int .i64 4, fun W hW => ?_, ?_⟩
  · go_simp
    exact (pfam_call Hp.out h4.out).mono fun e W2 hc2 => ⟨hc2.1, hW.go hc2.2⟩
  refine hK _ ?_
  clear hK K
  (try simp only [Act.put, List.setIfInBounds_toArray, List.set_cons_zero, List.set_cons_succ])
  refine wpQuiet_step_h hlq ?_
  clear hlq lq
  intro K lq hlq hK
  refine wanted_go (by rfl) ?_
  refine ⟨?_, fun W hW => ?_, ?_⟩
  rotate_left
  · skip
    go_simp
    with_reducible rfl
  refine hK _ ?_
  clear hK K
  (try simp only [Act.put, List.setIfInBounds_toArray, List.set_cons_zero, List.set_cons_succ])
  refine wpQuiet_nil_h hlq ?_
  clear hlq lq hV2
  intro V3 hV4
  go_wp2_with fail
  refine wp_region_C (C := Bz w [(w.heap.size, oP p)]) (by kernel_rfl) (by kernel_rfl) (hV4.drew) ?_
  refine wpQuiet_hide ?_
  intro lq hlq
  refine wpQuiet_step_h hlq ?_
  clear hlq lq
  intro K lq hlq hK
  refine wanted_go (by rfl) ?_
  refine ⟨?_, fun W hW => ?_, ?_⟩
  rotate_left
  · skip
    go_simp
    with_reducible rfl
  refine hK _ ?_
  clear hK K
  (try simp only [Act.put, List.setIfInBounds_toArray, List.set_cons_zero, List.set_cons_succ])
  refine wpQuiet_step_h hlq ?_
  clear hlq lq
  intro K lq hlq hK
  refine wanted_go (by rfl) ?_
  refine ⟨vA p.a, fun W hW => ?_, ?_⟩
  · skip
    exact quiet_load 42 _ rfl rfl (ldPa (hW.all.get 0 (x := (w.heap.size, oP p)) rfl) Hp.out)
  refine hK _ ?_
  clear hK K
  (try simp only [Act.put, List.setIfInBounds_toArray, List.set_cons_zero, List.set_cons_succ])
  refine wpQuiet_step_h hlq ?_
  clear hlq lq
  intro K lq hlq hK
  refine wanted_go (by rfl) ?_
  refine ⟨.string ⟨(dottedS p.a).toArray⟩, fun W hW => ?_, ?_⟩
  · go_simp
    have E' := hW.env E
    exact (dotted_any E' Hp.out.1).mono fun e W2 hc2 => ⟨hc2.1, hW.go hc2.2⟩
  refine hK _ ?_
  clear hK K
  (try simp only [Act.put, List.setIfInBounds_toArray, List.set_cons_zero, List.set_cons_succ])
  refine wpQuiet_step_h hlq ?_
  clear hlq lq
  intro K lq hlq hK
  refine wanted_go (by rfl) ?_
  refine ⟨.string ⟨(dottedS p.a ++ [47]).toArray⟩, fun W hW => ?_, ?_⟩
  · skip
    exact quiet_add rfl rfl rfl (str_add W _ _ s1.out)
  refine hK _ ?_
  clear hK K
  (try simp only [Act.put, List.setIfInBounds_toArray, List.set_cons_zero, List.set_cons_succ])
  refine wpQuiet_step_h hlq ?_
  clear hlq lq
  intro K lq hlq hK
  refine wanted_go (by rfl) ?_
  refine ⟨?_, fun W hW => ?_, ?_⟩
  rotate_left
  · skip
    go_simp
    with_reducible rfl
  refine hK _ ?_
  clear hK K
  (try simp only [Act.put, List.setIfInBounds_toArray, List.set_cons_zero, List.set_cons_succ])
  refine wpQuiet_step_h hlq ?_
  clear hlq lq
  intro K lq hlq hK
  refine wanted_go (by rfl) ?_
  refine ⟨.int .i64 p.n, fun W hW => ?_, ?_⟩
  · skip
    exact quiet_load 3 _ rfl rfl (ldPn (hW.all.get 0 (x := (w.heap.size, oP p)) rfl) Hp.out)
  refine hK _ ?_
  clear hK K
  (try simp only [Act.put, List.setIfInBounds_toArray, List.set_cons_zero, List.set_cons_succ])
  refine wpQuiet_step_h hlq ?_
  clear hlq lq
  intro K lq hlq hK
  refine wanted_go (by rfl) ?_
  refine ⟨?_, fun W hW => ?_, ?_⟩
  rotate_left
  · skip
    go_simp
    with_reducible rfl
  refine hK _ ?_
  clear hK K
  (try simp only [Act.put, List.setIfInBounds_toArray, List.set_cons_zero, List.set_cons_succ])
  refine wpQuiet_step_h hlq ?_
  clear hlq lq
  intro K lq hlq hK
  refine wanted_go (by rfl) ?_
  refine ⟨.string ⟨(Lib.itoa (p.n - 96)).toArray⟩, fun W hW => ?_, ?_⟩
  · go_simp
    have E' := hW.env E
    exact (itoa_call E' (by omega) (by omega)).mono fun e W2 hc2 => ⟨hc2.1, hW.go hc2.2⟩
  refine hK _ ?_
  clear hK K
  (try simp only [Act.put, List.setIfInBounds_toArray, List.set_cons_zero, List.set_cons_succ])
  refine wpQuiet_step_h hlq ?_
  clear hlq lq
  intro K lq hlq hK
  refine wanted_go (by rfl) ?_
  refine ⟨.string ⟨(dottedS p.a ++ [47] ++ Lib.itoa (p.n - 96)).toArray⟩, fun W hW => ?_, ?_⟩
  · skip
    exact quiet_add rfl rfl rfl (str_add W _ _ s2.out)
  refine hK _ ?_
  clear hK K
  (try simp only [Act.put, List.setIfInBounds_toArray, List.set_cons_zero, List.set_cons_succ])
  refine wpQuiet_step_h hlq ?_
  clear hlq lq
  intro K lq hlq hK
  refine wanted_go (by rfl) ?_
  refine ⟨?_, fun W hW => ?_, ?_⟩
  rotate_left
  · skip
    go_simp
    with_reducible rfl
  refine hK _ ?_
  clear hK K
  (try simp only [Act.put, List.setIfInBounds_toArray, List.set_cons_zero, List.set_cons_succ])
  refine wpQuiet_nil_h hlq ?_
  clear hlq lq hV4
  intro V5 hV6
  go_wp2_with fail
  go_ret
  exact ⟨congrArg (fun l : List UInt8 => Ending.returned (.string ⟨l.toArray⟩)) (show dottedS p.a ++ 47 :: Lib.itoa (p.n - 96) = pfxS p by rw [hr.out]; simp), hV6.bel⟩
set_option maxRecDepth 100000 in
set_option maxHeartbeats 1600000 in
theorem pfx_6 {w : World} (E : Env w) {p : Pf} (hp : p.ok) (hc : chk p = true) (h6 : pfam p = 6) : Calls Tryz.prog 57 #[vPf p] w fun e w' => e = .returned (.string ⟨(pfxS p).toArray⟩) ∧ Below w.heap.size w w' := by
  have hr : pfxS p = groupedS p.a ++ [47] ++ Lib.itoa p.n := by rw [pfx_yes hc, if_neg (by omega)]; simp
  have B := ((Bz.start w).alloc (oP p) rfl : Bz w [(w.heap.size, oP p)] _)
  have Hp := Lib.hid hp
  have c1 : (if chk p then (0 : Int) else 21) = 0 := by rw [hc]; rfl
  obtain ⟨n0, n1⟩ := chk_rng hc
  have l0 := grouped_len hp.1
  have l1 := itoa_len p.n (by omega) (by omega)
  have s1 : (groupedS p.a).length + ([47] : List UInt8).length ≤ 9223372036854775807 := by simp; omega
  have s2 : (groupedS p.a ++ [47]).length + (Lib.itoa p.n).length ≤ 9223372036854775807 := by simp; omega
  replace hr := Lib.hid hr
  replace c1 := Lib.hid c1
  replace h6 := Lib.hid h6
  replace s1 := Lib.hid s1
  replace s2 := Lib.hid s2
  clear hp hc l0 l1
  unfold vPf
  go_enter Tryz.func57, Tryz.ntmps57
  go_wp2_with (refine wpList_quiet (C := Bz w [(w.heap.size, oP p)]) 3 (by rfl) B ?_)
  refine wpQuiet_hide ?_
  intro lq hlq
  refine wpQuiet_step_h hlq ?_
  clear hlq lq
  intro K lq hlq hK
  refine wanted_go (by rfl) ?_
  refine ⟨vPf p, fun W hW => ?_, ?_⟩
  · skip
    exact quiet_load 55 _ rfl rfl (ldP (hW.all.get 0 (x := (w.heap.size, oP p)) rfl) Hp.out)
  refine hK _ ?_
  clear hK K
  (try simp only [Act.put, List.setIfInBounds_toArray, List.set_cons_zero, List.set_cons_succ])
  refine wpQuiet_step_h hlq ?_
  clear hlq lq
  intro K lq hlq hK
  refine wanted_go (by rfl) ?_
  refine ⟨.int .i64 0, fun W hW => ?_, ?_⟩
  · go_simp
    exact (chk_call Hp.out c1.out).mono fun e W2 hc2 => ⟨hc2.1, hW.go hc2.2⟩
  refine hK _ ?_
  clear hK K
  (try simp only [Act.put, List.setIfInBounds_toArray, List.set_cons_zero, List.set_cons_succ])
  refine wpQuiet_step_h hlq ?_
  clear hlq lq
  intro K lq hlq hK
  refine wanted_go (by rfl) ?_
  refine ⟨?_, fun W hW => ?_, ?_⟩
  rotate_left
  · skip
    go_simp
    with_reducible rfl
  refine hK _ ?_
  clear hK K
  (try simp only [Act.put, List.setIfInBounds_toArray, List.set_cons_zero, List.set_cons_succ])
  refine wpQuiet_nil_h hlq ?_
  clear hlq lq B
  intro V1 hV2
  go_wp2_with (refine wpList_quiet (C := Bz w [(w.heap.size, oP p)]) 3 (by rfl) hV2 ?_)
  refine wpQuiet_hide ?_
  intro lq hlq
  refine wpQuiet_step_h hlq ?_
  clear hlq lq
  intro K lq hlq hK
  refine wanted_go (by rfl) ?_
  refine ⟨vPf p, fun W hW => ?_, ?_⟩
  · skip
    exact quiet_load 55 _ rfl rfl (ldP (hW.all.get 0 (x := (w.heap.size, oP p)) rfl) Hp.out)
  refine hK _ ?_
  clear hK K
  (try simp only [Act.put, List.setIfInBounds_toArray, List.set_cons_zero, List.set_cons_succ])
  refine wpQuiet_step_h hlq ?_
  clear hlq lq
  intro K lq hlq hK
  refine wanted_go (by rfl) ?_
  refine ⟨.int .i64 6, fun W hW => ?_, ?_⟩
  · go_simp
    exact (pfam_call Hp.out h6.out).mono fun e W2 hc2 => ⟨hc2.1, hW.go hc2.2⟩
  refine hK _ ?_
  clear hK K
  (try simp only [Act.put, List.setIfInBounds_toArray, List.set_cons_zero, List.set_cons_succ])
  refine wpQuiet_step_h hlq ?_
  clear hlq lq
  intro K lq hlq hK
  refine wanted_go (by rfl) ?_
  refine ⟨?_, fun W hW => ?_, ?_⟩
  rotate_left
  · skip
    go_simp
    with_reducible rfl
  refine hK _ ?_
  clear hK K
  (try simp only [Act.put, List.setIfInBounds_toArray, List.set_cons_zero, List.set_cons_succ])
  refine wpQuiet_nil_h hlq ?_
  clear hlq lq hV2
  intro V3 hV4
  go_wp2_with fail
  refine wp_region_C (C := Bz w [(w.heap.size, oP p)]) (by kernel_rfl) (by kernel_rfl) (hV4.drew) ?_
  refine wpQuiet_hide ?_
  intro lq hlq
  refine wpQuiet_step_h hlq ?_
  clear hlq lq
  intro K lq hlq hK
  refine wanted_go (by rfl) ?_
  refine ⟨?_, fun W hW => ?_, ?_⟩
  rotate_left
  · skip
    go_simp
    with_reducible rfl
  refine hK _ ?_
  clear hK K
  (try simp only [Act.put, List.setIfInBounds_toArray, List.set_cons_zero, List.set_cons_succ])
  refine wpQuiet_step_h hlq ?_
  clear hlq lq
  intro K lq hlq hK
  refine wanted_go (by rfl) ?_
  refine ⟨vA p.a, fun W hW => ?_, ?_⟩
  · skip
    exact quiet_load 42 _ rfl rfl (ldPa (hW.all.get 0 (x := (w.heap.size, oP p)) rfl) Hp.out)
  refine hK _ ?_
  clear hK K
  (try simp only [Act.put, List.setIfInBounds_toArray, List.set_cons_zero, List.set_cons_succ])
  refine wpQuiet_step_h hlq ?_
  clear hlq lq
  intro K lq hlq hK
  refine wanted_go (by rfl) ?_
  refine ⟨.string ⟨(groupedS p.a).toArray⟩, fun W hW => ?_, ?_⟩
  · go_simp
    have E' := hW.env E
    exact (grouped_any E' Hp.out.1).mono fun e W2 hc2 => ⟨hc2.1, hW.go hc2.2⟩
  refine hK _ ?_
  clear hK K
  (try simp only [Act.put, List.setIfInBounds_toArray, List.set_cons_zero, List.set_cons_succ])
  refine wpQuiet_step_h hlq ?_
  clear hlq lq
  intro K lq hlq hK
  refine wanted_go (by rfl) ?_
  refine ⟨.string ⟨(groupedS p.a ++ [47]).toArray⟩, fun W hW => ?_, ?_⟩
  · skip
    exact quiet_add rfl rfl rfl (str_add W _ _ s1.out)
  refine hK _ ?_
  clear hK K
  (try simp only [Act.put, List.setIfInBounds_toArray, List.set_cons_zero, List.set_cons_succ])
  refine wpQuiet_step_h hlq ?_
  clear hlq lq
  intro K lq hlq hK
  refine wanted_go (by rfl) ?_
  refine ⟨?_, fun W hW => ?_, ?_⟩
  rotate_left
  · skip
    go_simp
    with_reducible rfl
  refine hK _ ?_
  clear hK K
  (try simp only [Act.put, List.setIfInBounds_toArray, List.set_cons_zero, List.set_cons_succ])
  refine wpQuiet_step_h hlq ?_
  clear hlq lq
  intro K lq hlq hK
  refine wanted_go (by rfl) ?_
  refine ⟨.int .i64 p.n, fun W hW => ?_, ?_⟩
  · skip
    exact quiet_load 3 _ rfl rfl (ldPn (hW.all.get 0 (x := (w.heap.size, oP p)) rfl) Hp.out)
  refine hK _ ?_
  clear hK K
  (try simp only [Act.put, List.setIfInBounds_toArray, List.set_cons_zero, List.set_cons_succ])
  refine wpQuiet_step_h hlq ?_
  clear hlq lq
  intro K lq hlq hK
  refine wanted_go (by rfl) ?_
  refine ⟨.string ⟨(Lib.itoa p.n).toArray⟩, fun W hW => ?_, ?_⟩
  · go_simp
    have E' := hW.env E
    exact (itoa_call E' (by omega) (by omega)).mono fun e W2 hc2 => ⟨hc2.1, hW.go hc2.2⟩
  refine hK _ ?_
  clear hK K
  (try simp only [Act.put, List.setIfInBounds_toArray, List.set_cons_zero, List.set_cons_succ])
  refine wpQuiet_step_h hlq ?_
  clear hlq lq
  intro K lq hlq hK
  refine wanted_go (by rfl) ?_
  refine ⟨.string ⟨(groupedS p.a ++ [47] ++ Lib.itoa p.n).toArray⟩, fun W hW => ?_, ?_⟩
  · skip
    exact quiet_add rfl rfl rfl (str_add W _ _ s2.out)
  refine hK _ ?_
  clear hK K
  (try simp only [Act.put, List.setIfInBounds_toArray, List.set_cons_zero, List.set_cons_succ])
  refine wpQuiet_step_h hlq ?_
  clear hlq lq
  intro K lq hlq hK
  refine wanted_go (by rfl) ?_
  refine ⟨?_, fun W hW => ?_, ?_⟩
  rotate_left
  · skip
    go_simp
    with_reducible rfl
  refine hK _ ?_
  clear hK K
  (try simp only [Act.put, List.setIfInBounds_toArray, List.set_cons_zero, List.set_cons_succ])
  refine wpQuiet_nil_h hlq ?_
  clear hlq lq hV4
  intro V5 hV6
  go_wp2_with fail
  go_ret
  exact ⟨congrArg (fun l : List UInt8 => Ending.returned (.string ⟨l.toArray⟩)) (show groupedS p.a ++ 47 :: Lib.itoa p.n = pfxS p by rw [hr.out]; simp), hV6.bel⟩
set_option maxRecDepth 100000 in
set_option maxHeartbeats 1600000 in
theorem pfx_bad {w : World} {p : Pf} (hp : p.ok) (hc : chk p = false) : Calls Tryz.prog 57 #[vPf p] w fun e w' => e = .returned (.string ⟨(pfxS p).toArray⟩) ∧ Below w.heap.size w w' := by
  have hr := Lib.hid (pfx_no hc)
  have B := ((Bz.start w).alloc (oP p) rfl : Bz w [(w.heap.size, oP p)] _)
  have Hp := Lib.hid hp
  have c1 : (if chk p then (0 : Int) else 21) = 21 := by rw [hc]; rfl
  replace c1 := Lib.hid c1
  clear hp hc
  unfold vPf
  go_enter Tryz.func57, Tryz.ntmps57
  go_wp2_with (refine wpList_quiet (C := Bz w [(w.heap.size, oP p)]) 3 (by rfl) B ?_)
  refine wpQuiet_hide ?_
  intro lq hlq
  refine wpQuiet_step_h hlq ?_
  clear hlq lq
  intro K lq hlq hK
  refine wanted_go (by rfl) ?_
  refine ⟨vPf p, fun W hW => ?_, ?_⟩
  · skip
    exact quiet_load 55 _ rfl rfl (ldP (hW.all.get 0 (x := (w.heap.size, oP p)) rfl) Hp.out)
  refine hK _ ?_
  clear hK K
  (try simp only [Act.put, List.setIfInBounds_toArray, List.set_cons_zero, List.set_cons_succ])
  refine wpQuiet_step_h hlq ?_
  clear hlq lq
  intro K lq hlq hK
  refine wanted_go (by rfl) ?_
  refine ⟨.int .i64 21, fun W hW => ?_, ?_⟩
  · go_simp
    exact (chk_call Hp.out c1.out).mono fun e W2 hc2 => ⟨hc2.1, hW.go hc2.2⟩
  refine hK _ ?_
  clear hK K
  (try simp only [Act.put, List.setIfInBounds_toArray, List.set_cons_zero, List.set_cons_succ])
  refine wpQuiet_step_h hlq ?_
  clear hlq lq
  intro K lq hlq hK
  refine wanted_go (by rfl) ?_
  refine ⟨?_, fun W hW => ?_, ?_⟩
  rotate_left
  · skip
    go_simp
    with_reducible rfl
  refine hK _ ?_
  clear hK K
  (try simp only [Act.put, List.setIfInBounds_toArray, List.set_cons_zero, List.set_cons_succ])
  refine wpQuiet_nil_h hlq ?_
  clear hlq lq B
  intro V1 hV2
  go_wp2_with fail
  go_ret
  exact ⟨by rw [hr.out]; rfl, hV2.bel⟩
/-- PrintPrefix. -/
theorem pfx_any {w : World} (E : Env w) {p : Pf} (hp : p.ok) : Calls Tryz.prog 57 #[vPf p] w fun e w' => e = .returned (.string ⟨(pfxS p).toArray⟩) ∧ Below w.heap.size w w' := by
  cases hc : chk p with
  | false => exact pfx_bad hp hc
  | true =>
    rcases pfam_or p with h | h
    · exact pfx_4 E hp hc h
    · exact pfx_6 E hp hc h
/-- Does it matter where packets come from? -/
def spec (q : Pr) : Bool := !decide (q.s = anyP (pfam q.s))
set_option maxRecDepth 100000 in
set_option maxHeartbeats 1600000 in
theorem spec_any {w : World} {q : Pr} (hq : q.fit) : Calls Tryz.prog 125 #[vPP q] w fun e w' => e = .returned (.bool (spec q)) ∧ Below w.heap.size w w' := by
  have B := ((Bz.start w).alloc (oPP q) rfl : Bz w [(w.heap.size, oPP q)] _)
  obtain ⟨f, hf⟩ : ∃ f, pfam q.s = f := ⟨_, rfl⟩
  have hz := fun W => neq_P W hq.2 (any_ok f)
  obtain ⟨b, hb⟩ : ∃ b, spec q = b := ⟨_, rfl⟩
  have hb2 : (!decide (q.s = anyP f)) = b := by rw [← hb, ← hf]; rfl
  rw [hb2] at hz
  rw [hb]
  have Hq := Lib.hid hq
  replace hf := Lib.hid hf
  clear hb hb2 hq
  unfold vPP
  go_enter Tryz.func125, Tryz.ntmps125
  go_wp2_with fail
  refine wp_region_C (C := Bz w [(w.heap.size, oPP q)]) (by kernel_rfl) (by kernel_rfl) (B.drew) ?_
  refine wpQuiet_hide ?_
  intro lq hlq
  refine wpQuiet_step_h hlq ?_
  clear hlq lq
  intro K lq hlq hK
  refine wanted_go (by rfl) ?_
  refine ⟨?_, fun W hW => ?_, ?_⟩
  rotate_left
  · skip
    go_simp
    with_reducible rfl
  refine hK _ ?_
  clear hK K
  (try simp only [Act.put, List.setIfInBounds_toArray, List.set_cons_zero, List.set_cons_succ])
  refine wpQuiet_step_h hlq ?_
  clear hlq lq
  intro K lq hlq hK
  refine wanted_go (by rfl) ?_
  refine ⟨vPf q.s, fun W hW => ?_, ?_⟩
  · skip
    exact quiet_load 55 _ rfl rfl (ldPPs (hW.all.get 0 (x := (w.heap.size, oPP q)) rfl) Hq.out)
  refine hK _ ?_
  clear hK K
  (try simp only [Act.put, List.setIfInBounds_toArray, List.set_cons_zero, List.set_cons_succ])
  refine wpQuiet_step_h hlq ?_
  clear hlq lq
  intro K lq hlq hK
  refine wanted_go (by rfl) ?_
  refine ⟨?_, fun W hW => ?_, ?_⟩
  rotate_left
  · skip
    go_simp
    with_reducible rfl
  refine hK _ ?_
  clear hK K
  (try simp only [Act.put, List.setIfInBounds_toArray, List.set_cons_zero, List.set_cons_succ])
  refine wpQuiet_step_h hlq ?_
  clear hlq lq
  intro K lq hlq hK
  refine wanted_go (by rfl) ?_
  refine ⟨vPf q.s, fun W hW => ?_, ?_⟩
  · skip
    exact quiet_load 55 _ rfl rfl (ldPPs (hW.all.get 0 (x := (w.heap.size, oPP q)) rfl) Hq.out)
  refine hK _ ?_
  clear hK K
  (try simp only [Act.put, List.setIfInBounds_toArray, List.set_cons_zero, List.set_cons_succ])
  refine wpQuiet_step_h hlq ?_
  clear hlq lq
  intro K lq hlq hK
  refine wanted_go (by rfl) ?_
  refine ⟨.int .i64 f, fun W hW => ?_, ?_⟩
  · go_simp
    exact (pfam_call Hq.out.2 hf.out).mono fun e W2 hc2 => ⟨hc2.1, hW.go hc2.2⟩
  refine hK _ ?_
  clear hK K
  (try simp only [Act.put, List.setIfInBounds_toArray, List.set_cons_zero, List.set_cons_succ])
  refine wpQuiet_step_h hlq ?_
  clear hlq lq
  intro K lq hlq hK
  refine wanted_go (by rfl) ?_
  refine ⟨vPf (anyP f), fun W hW => ?_, ?_⟩
  · go_simp
    exact (any_any f).mono fun e W2 hc2 => ⟨hc2.1, hW.go hc2.2⟩
  refine hK _ ?_
  clear hK K
  (try simp only [Act.put, List.setIfInBounds_toArray, List.set_cons_zero, List.set_cons_succ])
  refine wpQuiet_step_h hlq ?_
  clear hlq lq
  intro K lq hlq hK
  refine wanted_go (by rfl) ?_
  refine ⟨.bool b, fun W hW => ?_, ?_⟩
  · skip
    exact quiet_eq (.inr rfl) (by rfl) (by rfl) (by rfl) guard55 (hz W)
  refine hK _ ?_
  clear hK K
  (try simp only [Act.put, List.setIfInBounds_toArray, List.set_cons_zero, List.set_cons_succ])
  refine wpQuiet_step_h hlq ?_
  clear hlq lq
  intro K lq hlq hK
  refine wanted_go (by rfl) ?_
  refine ⟨?_, fun W hW => ?_, ?_⟩
  rotate_left
  · skip
    go_simp
    with_reducible rfl
  refine hK _ ?_
  clear hK K
  (try simp only [Act.put, List.setIfInBounds_toArray, List.set_cons_zero, List.set_cons_succ])
  refine wpQuiet_nil_h hlq ?_
  clear hlq lq B
  intro V1 hV2
  go_wp2_with fail
  go_ret
  exact ⟨rfl, hV2.bel⟩
/-- A pair's text. -/
def pairS (q : Pr) : List UInt8 := if chkPP q then (if spec q then pfxS q.d ++ ([32, 102, 114, 111, 109, 32] ++ pfxS q.s) else pfxS q.d) else []
theorem spec_call {w : World} {q : Pr} (hq : q.fit) {b : Bool} (h : spec q = b) : Calls Tryz.prog 125 #[vPP q] w fun e w' => e = .returned (.bool b) ∧ Below w.heap.size w w' := by rw [← h]; exact spec_any hq
set_option maxRecDepth 100000 in
set_option maxHeartbeats 1600000 in
theorem pair_bad {w : World} {q : Pr} (hq : q.fit) (hc : chkPP q = false) : Calls Tryz.prog 59 #[vPP q] w fun e w' => e = .returned (.string ⟨(pairS q).toArray⟩) ∧ Below w.heap.size w w' := by
  have hr : pairS q = [] := by unfold pairS; rw [hc]; rfl
  have B := ((Bz.start w).alloc (oPP q) rfl : Bz w [(w.heap.size, oPP q)] _)
  have Hq := Lib.hid hq
  have c1 : (if chkPP q then (0 : Int) else 21) = 21 := by rw [hc]; rfl
  replace c1 := Lib.hid c1
  replace hr := Lib.hid hr
  clear hq hc
  unfold vPP
  go_enter Tryz.func59, Tryz.ntmps59
  go_wp2_with (refine wpList_quiet (C := Bz w [(w.heap.size, oPP q)]) 3 (by rfl) B ?_)
  refine wpQuiet_hide ?_
  intro lq hlq
  refine wpQuiet_step_h hlq ?_
  clear hlq lq
  intro K lq hlq hK
  refine wanted_go (by rfl) ?_
  refine ⟨vPP q, fun W hW => ?_, ?_⟩
  · skip
    exact quiet_load 57 _ rfl rfl (ldPP (hW.all.get 0 (x := (w.heap.size, oPP q)) rfl) Hq.out)
  refine hK _ ?_
  clear hK K
  (try simp only [Act.put, List.setIfInBounds_toArray, List.set_cons_zero, List.set_cons_succ])
  refine wpQuiet_step_h hlq ?_
  clear hlq lq
  intro K lq hlq hK
  refine wanted_go (by rfl) ?_
  refine ⟨.int .i64 21, fun W hW => ?_, ?_⟩
  · go_simp
    exact (chkPP_call Hq.out c1.out).mono fun e W2 hc2 => ⟨hc2.1, hW.go hc2.2⟩
  refine hK _ ?_
  clear hK K
  (try simp only [Act.put, List.setIfInBounds_toArray, List.set_cons_zero, List.set_cons_succ])
  refine wpQuiet_step_h hlq ?_
  clear hlq lq
  intro K lq hlq hK
  refine wanted_go (by rfl) ?_
  refine ⟨?_, fun W hW => ?_, ?_⟩
  rotate_left
  · skip
    go_simp
    with_reducible rfl
  refine hK _ ?_
  clear hK K
  (try simp only [Act.put, List.setIfInBounds_toArray, List.set_cons_zero, List.set_cons_succ])
  refine wpQuiet_nil_h hlq ?_
  clear hlq lq B
  intro V1 hV2
  go_wp2_with fail
  go_ret
  exact ⟨by rw [hr.out]; rfl, hV2.bel⟩
set_option maxRecDepth 100000 in
set_option maxHeartbeats 1600000 in
theorem pair_plain {w : World} (E : Env w) {q : Pr} (hq : q.fit) (hc : chkPP q = true) (hs : spec q = false) : Calls Tryz.prog 59 #[vPP q] w fun e w' => e = .returned (.string ⟨(pairS q).toArray⟩) ∧ Below w.heap.size w w' := by
  have hr : pairS q = pfxS q.d := by unfold pairS; rw [hc, hs]; rfl
  have B := ((Bz.start w).alloc (oPP q) rfl : Bz w [(w.heap.size, oPP q)] _)
  have Hq := Lib.hid hq
  have c1 : (if chkPP q then (0 : Int) else 21) = 0 := by rw [hc]; rfl
  replace c1 := Lib.hid c1
  replace hr := Lib.hid hr
  replace hs := Lib.hid hs
  clear hq hc
  unfold vPP
  go_enter Tryz.func59, Tryz.ntmps59
  go_wp2_with (refine wpList_quiet (C := Bz w [(w.heap.size, oPP q)]) 3 (by rfl) B ?_)
  refine wpQuiet_hide ?_
  intro lq hlq
  refine wpQuiet_step_h hlq ?_
  clear hlq lq
  intro K lq hlq hK
  refine wanted_go (by rfl) ?_
  refine ⟨vPP q, fun W hW => ?_, ?_⟩
  · skip
    exact quiet_load 57 _ rfl rfl (ldPP (hW.all.get 0 (x := (w.heap.size, oPP q)) rfl) Hq.out)
  refine hK _ ?_
  clear hK K
  (try simp only [Act.put, List.setIfInBounds_toArray, List.set_cons_zero, List.set_cons_succ])
  refine wpQuiet_step_h hlq ?_
  clear hlq lq
  intro K lq hlq hK
  refine wanted_go (by rfl) ?_
  refine ⟨.int .i64 0, fun W hW => ?_, ?_⟩
  · go_simp
    exact (chkPP_call Hq.out c1.out).mono fun e W2 hc2 => ⟨hc2.1, hW.go hc2.2⟩
  refine hK _ ?_
  clear hK K
  (try simp only [Act.put, List.setIfInBounds_toArray, List.set_cons_zero, List.set_cons_succ])
  refine wpQuiet_step_h hlq ?_
  clear hlq lq
  intro K lq hlq hK
  refine wanted_go (by rfl) ?_
  refine ⟨?_, fun W hW => ?_, ?_⟩
  rotate_left
  · skip
    go_simp
    with_reducible rfl
  refine hK _ ?_
  clear hK K
  (try simp only [Act.put, List.setIfInBounds_toArray, List.set_cons_zero, List.set_cons_succ])
  refine wpQuiet_nil_h hlq ?_
  clear hlq lq B
  intro V1 hV2
  go_wp2_with (refine wpList_quiet (C := Bz w [(w.heap.size, oPP q)]) 4 (by rfl) hV2 ?_)
  refine wpQuiet_hide ?_
  intro lq hlq
  refine wpQuiet_step_h hlq ?_
  clear hlq lq
  intro K lq hlq hK
  refine wanted_go (by rfl) ?_
  refine ⟨?_, fun W hW => ?_, ?_⟩
  rotate_left
  · skip
    go_simp
    with_reducible rfl
  refine hK _ ?_
  clear hK K
  (try simp only [Act.put, List.setIfInBounds_toArray, List.set_cons_zero, List.set_cons_succ])
  refine wpQuiet_step_h hlq ?_
  clear hlq lq
  intro K lq hlq hK
  refine wanted_go (by rfl) ?_
  refine ⟨vPf q.d, fun W hW => ?_, ?_⟩
  · skip
    exact quiet_load 55 _ rfl rfl (ldPPd (hW.all.get 0 (x := (w.heap.size, oPP q)) rfl) Hq.out)
  refine hK _ ?_
  clear hK K
  (try simp only [Act.put, List.setIfInBounds_toArray, List.set_cons_zero, List.set_cons_succ])
  refine wpQuiet_step_h hlq ?_
  clear hlq lq
  intro K lq hlq hK
  refine wanted_go (by rfl) ?_
  refine ⟨.string ⟨(pfxS q.d).toArray⟩, fun W hW => ?_, ?_⟩
  · go_simp
    have E' := hW.env E
    exact (pfx_any E' Hq.out.1).mono fun e W2 hc2 => ⟨hc2.1, hW.go hc2.2⟩
  refine hK _ ?_
  clear hK K
  (try simp only [Act.put, List.setIfInBounds_toArray, List.set_cons_zero, List.set_cons_succ])
  refine wpQuiet_step_h hlq ?_
  clear hlq lq
  intro K lq hlq hK
  refine wanted_go (by rfl) ?_
  refine ⟨?_, fun W hW => ?_, ?_⟩
  rotate_left
  · skip
    go_simp
    with_reducible rfl
  refine hK _ ?_
  clear hK K
  (try simp only [Act.put, List.setIfInBounds_toArray, List.set_cons_zero, List.set_cons_succ])
  refine wpQuiet_nil_h hlq ?_
  clear hlq lq hV2
  intro V3 hV4
  go_wp2_with (refine wpList_quiet (C := Bz w [(w.heap.size, oPP q)]) 2 (by rfl) hV4 ?_)
  refine wpQuiet_hide ?_
  intro lq hlq
  refine wpQuiet_step_h hlq ?_
  clear hlq lq
  intro K lq hlq hK
  refine wanted_go (by rfl) ?_
  refine ⟨vPP q, fun W hW => ?_, ?_⟩
  · skip
    exact quiet_load 57 _ rfl rfl (ldPP (hW.all.get 0 (x := (w.heap.size, oPP q)) rfl) Hq.out)
  refine hK _ ?_
  clear hK K
  (try simp only [Act.put, List.setIfInBounds_toArray, List.set_cons_zero, List.set_cons_succ])
  refine wpQuiet_step_h hlq ?_
  clear hlq lq
  intro K lq hlq hK
  refine wanted_go (by rfl) ?_
  refine ⟨.bool false, fun W hW => ?_, ?_⟩
  · go_simp
    exact (spec_call Hq.out hs.out).mono fun e W2 hc2 => ⟨hc2.1, hW.go hc2.2⟩
  refine hK _ ?_
  clear hK K
  (try simp only [Act.put, List.setIfInBounds_toArray, List.set_cons_zero, List.set_cons_succ])
  refine wpQuiet_nil_h hlq ?_
  clear hlq lq hV4
  intro V5 hV6
  go_wp2_with fail
  go_ret
  exact ⟨by rw [hr.out]; rfl, hV6.bel⟩
set_option maxRecDepth 100000 in
set_option maxHeartbeats 1600000 in
theorem pair_from {w : World} (E : Env w) {q : Pr} (hq : q.fit) (hc : chkPP q = true) (hs : spec q = true) : Calls Tryz.prog 59 #[vPP q] w fun e w' => e = .returned (.string ⟨(pairS q).toArray⟩) ∧ Below w.heap.size w w' := by
  have hr : pairS q = pfxS q.d ++ ([32, 102, 114, 111, 109, 32] ++ pfxS q.s) := by unfold pairS; rw [hc, hs]; rfl
  have B := ((Bz.start w).alloc (oPP q) rfl : Bz w [(w.heap.size, oPP q)] _)
  have Hq := Lib.hid hq
  have c1 : (if chkPP q then (0 : Int) else 21) = 0 := by rw [hc]; rfl
  have l1 := pfx_len hq.1.1
  have l2 := pfx_len hq.2.1
  have s1 : ([32, 102, 114, 111, 109, 32] : List UInt8).length + (pfxS q.s).length ≤ 9223372036854775807 := by simp; omega
  have s2 : (pfxS q.d).length + ([32, 102, 114, 111, 109, 32] ++ pfxS q.s).length ≤ 9223372036854775807 := by simp; omega
  replace c1 := Lib.hid c1
  replace hr := Lib.hid hr
  replace hs := Lib.hid hs
  replace s1 := Lib.hid s1
  replace s2 := Lib.hid s2
  clear hq hc l1 l2
  unfold vPP
  go_enter Tryz.func59, Tryz.ntmps59
  go_wp2_with (refine wpList_quiet (C := Bz w [(w.heap.size, oPP q)]) 3 (by rfl) B ?_)
  refine wpQuiet_hide ?_
  intro lq hlq
  refine wpQuiet_step_h hlq ?_
  clear hlq lq
  intro K lq hlq hK
  refine wanted_go (by rfl) ?_
  refine ⟨vPP q, fun W hW => ?_, ?_⟩
  · skip
    exact quiet_load 57 _ rfl rfl (ldPP (hW.all.get 0 (x := (w.heap.size, oPP q)) rfl) Hq.out)
  refine hK _ ?_
  clear hK K
  (try simp only [Act.put, List.setIfInBounds_toArray, List.set_cons_zero, List.set_cons_succ])
  refine wpQuiet_step_h hlq ?_
  clear hlq lq
  intro K lq hlq hK
  refine wanted_go (by rfl) ?_
  refine ⟨.int .i64 0, fun W hW => ?_, ?_⟩
  · go_simp
    exact (chkPP_call Hq.out c1.out).mono fun e W2 hc2 => ⟨hc2.1, hW.go hc2.2⟩
  refine hK _ ?_
  clear hK K
  (try simp only [Act.put, List.setIfInBounds_toArray, List.set_cons_zero, List.set_cons_succ])
  refine wpQuiet_step_h hlq ?_
  clear hlq lq
  intro K lq hlq hK
  refine wanted_go (by rfl) ?_
  refine ⟨?_, fun W hW => ?_, ?_⟩
  rotate_left
  · skip
    go_simp
    with_reducible rfl
  refine hK _ ?_
  clear hK K
  (try simp only [Act.put, List.setIfInBounds_toArray, List.set_cons_zero, List.set_cons_succ])
  refine wpQuiet_nil_h hlq ?_
  clear hlq lq B
  intro V1 hV2
  go_wp2_with (refine wpList_quiet (C := Bz w [(w.heap.size, oPP q)]) 4 (by rfl) hV2 ?_)
  refine wpQuiet_hide ?_
  intro lq hlq
  refine wpQuiet_step_h hlq ?_
  clear hlq lq
  intro K lq hlq hK
  refine wanted_go (by rfl) ?_
  refine ⟨?_, fun W hW => ?_, ?_⟩
  rotate_left
  · skip
    go_simp
    with_reducible rfl
  refine hK _ ?_
  clear hK K
  (try simp only [Act.put, List.setIfInBounds_toArray, List.set_cons_zero, List.set_cons_succ])
  refine wpQuiet_step_h hlq ?_
  clear hlq lq
  intro K lq hlq hK
  refine wanted_go (by rfl) ?_
  refine ⟨vPf q.d, fun W hW => ?_, ?_⟩
  · skip
    exact quiet_load 55 _ rfl rfl (ldPPd (hW.all.get 0 (x := (w.heap.size, oPP q)) rfl) Hq.out)
  refine hK _ ?_
  clear hK K
  (try simp only [Act.put, List.setIfInBounds_toArray, List.set_cons_zero, List.set_cons_succ])
  refine wpQuiet_step_h hlq ?_
  clear hlq lq
  intro K lq hlq hK
  refine wanted_go (by rfl) ?_
  refine ⟨.string ⟨(pfxS q.d).toArray⟩, fun W hW => ?_, ?_⟩
  · go_simp
    have E' := hW.env E
    exact (pfx_any E' Hq.out.1).mono fun e W2 hc2 => ⟨hc2.1, hW.go hc2.2⟩
  refine hK _ ?_
  clear hK K
  (try simp only [Act.put, List.setIfInBounds_toArray, List.set_cons_zero, List.set_cons_succ])
  refine wpQuiet_step_h hlq ?_
  clear hlq lq
  intro K lq hlq hK
  refine wanted_go (by rfl) ?_
  refine ⟨?_, fun W hW => ?_, ?_⟩
  rotate_left
  · skip
    go_simp
    with_reducible rfl
  refine hK _ ?_
  clear hK K
  (try simp only [Act.put, List.setIfInBounds_toArray, List.set_cons_zero, List.set_cons_succ])
  refine wpQuiet_nil_h hlq ?_
  clear hlq lq hV2
  intro V3 hV4
  go_wp2_with (refine wpList_quiet (C := Bz w [(w.heap.size, oPP q)]) 2 (by rfl) hV4 ?_)
  refine wpQuiet_hide ?_
  intro lq hlq
  refine wpQuiet_step_h hlq ?_
  clear hlq lq
  intro K lq hlq hK
  refine wanted_go (by rfl) ?_
  refine ⟨vPP q, fun W hW => ?_, ?_⟩
  · skip
    exact quiet_load 57 _ rfl rfl (ldPP (hW.all.get 0 (x := (w.heap.size, oPP q)) rfl) Hq.out)
  refine hK _ ?_
  clear hK K
  (try simp only [Act.put, List.setIfInBounds_toArray, List.set_cons_zero, List.set_cons_succ])
  refine wpQuiet_step_h hlq ?_
  clear hlq lq
  intro K lq hlq hK
  refine wanted_go (by rfl) ?_
  refine ⟨.bool true, fun W hW => ?_, ?_⟩
  · go_simp
    exact (spec_call Hq.out hs.out).mono fun e W2 hc2 => ⟨hc2.1, hW.go hc2.2⟩
  refine hK _ ?_
  clear hK K
  (try simp only [Act.put, List.setIfInBounds_toArray, List.set_cons_zero, List.set_cons_succ])
  refine wpQuiet_nil_h hlq ?_
  clear hlq lq hV4
  intro V5 hV6
  go_wp2_with (refine wpList_quiet (C := Bz w [(w.heap.size, oPP q)]) 6 (by rfl) hV6 ?_)
  refine wpQuiet_hide ?_
  intro lq hlq
  refine wpQuiet_step_h hlq ?_
  clear hlq lq
  intro K lq hlq hK
  refine wanted_go (by rfl) ?_
  refine ⟨?_, fun W hW => ?_, ?_⟩
  rotate_left
  · skip
    go_simp
    with_reducible rfl
  refine hK _ ?_
  clear hK K
  (try simp only [Act.put, List.setIfInBounds_toArray, List.set_cons_zero, List.set_cons_succ])
  refine wpQuiet_step_h hlq ?_
  clear hlq lq
  intro K lq hlq hK
  refine wanted_go (by rfl) ?_
  refine ⟨vPf q.s, fun W hW => ?_, ?_⟩
  · skip
    exact quiet_load 55 _ rfl rfl (ldPPs (hW.all.get 0 (x := (w.heap.size, oPP q)) rfl) Hq.out)
  refine hK _ ?_
  clear hK K
  (try simp only [Act.put, List.setIfInBounds_toArray, List.set_cons_zero, List.set_cons_succ])
  refine wpQuiet_step_h hlq ?_
  clear hlq lq
  intro K lq hlq hK
  refine wanted_go (by rfl) ?_
  refine ⟨.string ⟨(pfxS q.s).toArray⟩, fun W hW => ?_, ?_⟩
  · go_simp
    have E' := hW.env E
    exact (pfx_any E' Hq.out.2).mono fun e W2 hc2 => ⟨hc2.1, hW.go hc2.2⟩
  refine hK _ ?_
  clear hK K
  (try simp only [Act.put, List.setIfInBounds_toArray, List.set_cons_zero, List.set_cons_succ])
  refine wpQuiet_step_h hlq ?_
  clear hlq lq
  intro K lq hlq hK
  refine wanted_go (by rfl) ?_
  refine ⟨.string ⟨([32, 102, 114, 111, 109, 32] ++ pfxS q.s).toArray⟩, fun W hW => ?_, ?_⟩
  · skip
    exact quiet_add rfl rfl rfl (str_add W _ _ s1.out)
  refine hK _ ?_
  clear hK K
  (try simp only [Act.put, List.setIfInBounds_toArray, List.set_cons_zero, List.set_cons_succ])
  refine wpQuiet_step_h hlq ?_
  clear hlq lq
  intro K lq hlq hK
  refine wanted_go (by rfl) ?_
  refine ⟨.string ⟨(pfxS q.d ++ ([32, 102, 114, 111, 109, 32] ++ pfxS q.s)).toArray⟩, fun W hW => ?_, ?_⟩
  · skip
    exact quiet_add rfl rfl rfl (str_add W _ _ s2.out)
  refine hK _ ?_
  clear hK K
  (try simp only [Act.put, List.setIfInBounds_toArray, List.set_cons_zero, List.set_cons_succ])
  refine wpQuiet_step_h hlq ?_
  clear hlq lq
  intro K lq hlq hK
  refine wanted_go (by rfl) ?_
  refine ⟨?_, fun W hW => ?_, ?_⟩
  rotate_left
  · skip
    go_simp
    with_reducible rfl
  refine hK _ ?_
  clear hK K
  (try simp only [Act.put, List.setIfInBounds_toArray, List.set_cons_zero, List.set_cons_succ])
  refine wpQuiet_nil_h hlq ?_
  clear hlq lq hV6
  intro V7 hV8
  go_wp2_with fail
  go_ret
  exact ⟨by rw [hr.out]; rfl, hV8.bel⟩
/-- PrintPair. -/
theorem pairS_any {w : World} (E : Env w) {q : Pr} (hq : q.fit) : Calls Tryz.prog 59 #[vPP q] w fun e w' => e = .returned (.string ⟨(pairS q).toArray⟩) ∧ Below w.heap.size w w' := by
  cases hc : chkPP q with
  | false => exact pair_bad hq hc
  | true =>
    cases hs : spec q with
    | false => exact pair_plain E hq hc hs
    | true => exact pair_from E hq hc hs
end Go.Proofs.YtnljjlaececnkaaGreatDoor
/-
  The document's text of a prefix. No condition.
-/
namespace Go.Proofs.YtnljjlaececnkaaGreatDoor
open Go.RowKit
set_option linter.unusedVariables false
set_option linter.unusedSimpArgs false
theorem rchk_call {w : World} {p : Pf} {c : Int} (hp : p.ok) (hc : (if chk p then (0 : Int) else 21) = c) : Calls Tryz.prog 63 #[vPf p] w fun e w' => e = .returned (.int .i64 c) ∧ Below w.heap.size w w' := by
  rw [← hc]; exact rcheck_any hp
theorem rpfam_call {w : World} {p : Pf} {c : Int} (hp : p.ok) (hc : pfam p = c) : Calls Tryz.prog 64 #[vPf p] w fun e w' => e = .returned (.int .i64 c) ∧ Below w.heap.size w w' := by
  rw [← hc]; exact rpfam_any hp
set_option maxRecDepth 100000 in
set_option maxHeartbeats 1600000 in
theorem rpfx_4 {w : World} {p : Pf} (hp : p.ok) (hc : chk p = true) (h4 : pfam p = 4) : Calls Tryz.prog 66 #[vPf p] w fun e w' => e = .returned (.string ⟨(pfxS p).toArray⟩) ∧ Below w.heap.size w w' := by
  have hr : pfxS p = dottedS p.a ++ [47] ++ Lib.itoa (p.n - 96) := by rw [pfx_yes hc, if_pos h4]; simp
  have B := ((Bz.start w).alloc (oP p) rfl : Bz w [(w.heap.size, oP p)] _)
  have Hp := Lib.hid hp
  have c1 : (if chk p then (0 : Int) else 21) = 0 := by rw [hc]; rfl
  obtain ⟨n0, n1⟩ := chk_rng hc
  have n2 := (pfam4 h4).1
  have l0 := dotted_len hp.1
  have l1 := itoa_len (p.n - 96) (by omega) (by omega)
  have s1 : (dottedS p.a).length + ([47] : List UInt8).length ≤ 9223372036854775807 := by simp; omega
  have s2 : (dottedS p.a ++ [47]).length + (Lib.itoa (p.n - 96)).length ≤ 9223372036854775807 := by simp; omega
  have w1 : IntKind.i64.wrap (p.n - 96) = p.n - 96 := IntWalk.i64_in _ (by omega)
  replace hr := Lib.hid hr
  replace c1 := Lib.hid c1
  replace h4 := Lib.hid h4
  replace s1 := Lib.hid s1
  replace s2 := Lib.hid s2
  clear hp hc l0 l1
  unfold vPf
  go_enter Tryz.func66, Tryz.ntmps66
  go_wp2_with (refine wpList_quiet (C := Bz w [(w.heap.size, oP p)]) 3 (by rfl) B ?_)
  refine wpQuiet_hide ?_
  intro lq hlq
  refine wpQuiet_step_h hlq ?_
  clear hlq lq
  intro K lq hlq hK
  refine wanted_go (by rfl) ?_
  refine ⟨vPf p, fun W hW => ?_, ?_⟩
  · skip
    exact quiet_load 55 _ rfl rfl (ldP (hW.all.get 0 (x := (w.heap.size, oP p)) rfl) Hp.out)
  refine hK _ ?_
  clear hK K
  (try simp only [Act.put, List.setIfInBounds_toArray, List.set_cons_zero, List.set_cons_succ])
  refine wpQuiet_step_h hlq ?_
  clear hlq lq
  intro K lq hlq hK
  refine wanted_go (by rfl) ?_
  refine ⟨.int .i64 0, fun W hW => ?_, ?_⟩
  · go_simp
    exact (rchk_call Hp.out c1.out).mono fun e W2 hc2 => ⟨hc2.1, hW.go hc2.2⟩
  refine hK _ ?_
  clear hK K
  (try simp only [Act.put, List.setIfInBounds_toArray, List.set_cons_zero, List.set_cons_succ])
  refine wpQuiet_step_h hlq ?_
  clear hlq lq
  intro K lq hlq hK
  refine wanted_go (by rfl) ?_
  refine ⟨?_, fun W hW => ?_, ?_⟩
  rotate_left
  · skip
    go_simp
    with_reducible rfl
  refine hK _ ?_
  clear hK K
  (try simp only [Act.put, List.setIfInBounds_toArray, List.set_cons_zero, List.set_cons_succ])
  refine wpQuiet_nil_h hlq ?_
  clear hlq lq B
  intro V1 hV2
  go_wp2_with (refine wpList_quiet (C := Bz w [(w.heap.size, oP p)]) 3 (by rfl) hV2 ?_)
  refine wpQuiet_hide ?_
  intro lq hlq
  refine wpQuiet_step_h hlq ?_
  clear hlq lq
  intro K lq hlq hK
  refine wanted_go (by rfl) ?_
  refine ⟨vPf p, fun W hW => ?_, ?_⟩
  · skip
    exact quiet_load 55 _ rfl rfl (ldP (hW.all.get 0 (x := (w.heap.size, oP p)) rfl) Hp.out)
  refine hK _ ?_
  clear hK K
  (try simp only [Act.put, List.setIfInBounds_toArray, List.set_cons_zero, List.set_cons_succ])
  refine wpQuiet_step_h hlq ?_
  clear hlq lq
  intro K lq hlq hK
  refine wanted_go (by rfl) ?_
  refine ⟨.int .i64 4, fun W hW => ?_, ?_⟩
  · go_simp
    exact (rpfam_call Hp.out h4.out).mono fun e W2 hc2 => ⟨hc2.1, hW.go hc2.2⟩
  refine hK _ ?_
  clear hK K
  (try simp only [Act.put, List.setIfInBounds_toArray, List.set_cons_zero, List.set_cons_succ])
  refine wpQuiet_step_h hlq ?_
  clear hlq lq
  intro K lq hlq hK
  refine wanted_go (by rfl) ?_
  refine ⟨?_, fun W hW => ?_, ?_⟩
  rotate_left
  · skip
    go_simp
    with_reducible rfl
  refine hK _ ?_
  clear hK K
  (try simp only [Act.put, List.setIfInBounds_toArray, List.set_cons_zero, List.set_cons_succ])
  refine wpQuiet_nil_h hlq ?_
  clear hlq lq hV2
  intro V3 hV4
  go_wp2_with fail
  refine wp_region_C (C := Bz w [(w.heap.size, oP p)]) (by kernel_rfl) (by kernel_rfl) (hV4.drew) ?_
  refine wpQuiet_hide ?_
  intro lq hlq
  refine wpQuiet_step_h hlq ?_
  clear hlq lq
  intro K lq hlq hK
  refine wanted_go (by rfl) ?_
  refine ⟨?_, fun W hW => ?_, ?_⟩
  rotate_left
  · skip
    go_simp
    with_reducible rfl
  refine hK _ ?_
  clear hK K
  (try simp only [Act.put, List.setIfInBounds_toArray, List.set_cons_zero, List.set_cons_succ])
  refine wpQuiet_step_h hlq ?_
  clear hlq lq
  intro K lq hlq hK
  refine wanted_go (by rfl) ?_
  refine ⟨vA p.a, fun W hW => ?_, ?_⟩
  · skip
    exact quiet_load 42 _ rfl rfl (ldPa (hW.all.get 0 (x := (w.heap.size, oP p)) rfl) Hp.out)
  refine hK _ ?_
  clear hK K
  (try simp only [Act.put, List.setIfInBounds_toArray, List.set_cons_zero, List.set_cons_succ])
  refine wpQuiet_step_h hlq ?_
  clear hlq lq
  intro K lq hlq hK
  refine wanted_go (by rfl) ?_
  refine ⟨.string ⟨(dottedS p.a).toArray⟩, fun W hW => ?_, ?_⟩
  · go_simp
    exact (fours_any Hp.out.1).mono fun e W2 hc2 => ⟨hc2.1, hW.go hc2.2⟩
  refine hK _ ?_
  clear hK K
  (try simp only [Act.put, List.setIfInBounds_toArray, List.set_cons_zero, List.set_cons_succ])
  refine wpQuiet_step_h hlq ?_
  clear hlq lq
  intro K lq hlq hK
  refine wanted_go (by rfl) ?_
  refine ⟨.string ⟨(dottedS p.a ++ [47]).toArray⟩, fun W hW => ?_, ?_⟩
  · skip
    exact quiet_add rfl rfl rfl (str_add W _ _ s1.out)
  refine hK _ ?_
  clear hK K
  (try simp only [Act.put, List.setIfInBounds_toArray, List.set_cons_zero, List.set_cons_succ])
  refine wpQuiet_step_h hlq ?_
  clear hlq lq
  intro K lq hlq hK
  refine wanted_go (by rfl) ?_
  refine ⟨?_, fun W hW => ?_, ?_⟩
  rotate_left
  · skip
    go_simp
    with_reducible rfl
  refine hK _ ?_
  clear hK K
  (try simp only [Act.put, List.setIfInBounds_toArray, List.set_cons_zero, List.set_cons_succ])
  refine wpQuiet_step_h hlq ?_
  clear hlq lq
  intro K lq hlq hK
  refine wanted_go (by rfl) ?_
  refine ⟨.int .i64 p.n, fun W hW => ?_, ?_⟩
  · skip
    exact quiet_load 3 _ rfl rfl (ldPn (hW.all.get 0 (x := (w.heap.size, oP p)) rfl) Hp.out)
  refine hK _ ?_
  clear hK K
  (try simp only [Act.put, List.setIfInBounds_toArray, List.set_cons_zero, List.set_cons_succ])
  refine wpQuiet_step_h hlq ?_
  clear hlq lq
  intro K lq hlq hK
  refine wanted_go (by rfl) ?_
  refine ⟨?_, fun W hW => ?_, ?_⟩
  rotate_left
  · skip
    go_simp
    with_reducible rfl
  refine hK _ ?_
  clear hK K
  (try simp only [Act.put, List.setIfInBounds_toArray, List.set_cons_zero, List.set_cons_succ])
  refine wpQuiet_step_h hlq ?_
  clear hlq lq
  intro K lq hlq hK
  refine wanted_go (by rfl) ?_
  refine ⟨.string ⟨(Lib.itoa (p.n - 96)).toArray⟩, fun W hW => ?_, ?_⟩
  · go_simp
    exact (digits_call (by omega) (by omega)).mono fun e W2 hc2 => ⟨hc2.1, hW.go hc2.2⟩
  refine hK _ ?_
  clear hK K
  (try simp only [Act.put, List.setIfInBounds_toArray, List.set_cons_zero, List.set_cons_succ])
  refine wpQuiet_step_h hlq ?_
  clear hlq lq
  intro K lq hlq hK
  refine wanted_go (by rfl) ?_
  refine ⟨.string ⟨(dottedS p.a ++ [47] ++ Lib.itoa (p.n - 96)).toArray⟩, fun W hW => ?_, ?_⟩
  · skip
    exact quiet_add rfl rfl rfl (str_add W _ _ s2.out)
  refine hK _ ?_
  clear hK K
  (try simp only [Act.put, List.setIfInBounds_toArray, List.set_cons_zero, List.set_cons_succ])
  refine wpQuiet_step_h hlq ?_
  clear hlq lq
  intro K lq hlq hK
  refine wanted_go (by rfl) ?_
  refine ⟨?_, fun W hW => ?_, ?_⟩
  rotate_left
  · skip
    go_simp
    with_reducible rfl
  refine hK _ ?_
  clear hK K
  (try simp only [Act.put, List.setIfInBounds_toArray, List.set_cons_zero, List.set_cons_succ])
  refine wpQuiet_nil_h hlq ?_
  clear hlq lq hV4
  intro V5 hV6
  go_wp2_with fail
  go_ret
  exact ⟨congrArg (fun l : List UInt8 => Ending.returned (.string ⟨l.toArray⟩)) (show dottedS p.a ++ 47 :: Lib.itoa (p.n - 96) = pfxS p by rw [hr.out]; simp), hV6.bel⟩
set_option maxRecDepth 100000 in
set_option maxHeartbeats 1600000 in
theorem rpfx_6 {w : World} {p : Pf} (hp : p.ok) (hc : chk p = true) (h6 : pfam p = 6) : Calls Tryz.prog 66 #[vPf p] w fun e w' => e = .returned (.string ⟨(pfxS p).toArray⟩) ∧ Below w.heap.size w w' := by
  have hr : pfxS p = groupedS p.a ++ [47] ++ Lib.itoa p.n := by rw [pfx_yes hc, if_neg (by omega)]; simp
  have B := ((Bz.start w).alloc (oP p) rfl : Bz w [(w.heap.size, oP p)] _)
  have Hp := Lib.hid hp
  have c1 : (if chk p then (0 : Int) else 21) = 0 := by rw [hc]; rfl
  obtain ⟨n0, n1⟩ := chk_rng hc
  have l0 := grouped_len hp.1
  have l1 := itoa_len p.n (by omega) (by omega)
  have s1 : (groupedS p.a).length + ([47] : List UInt8).length ≤ 9223372036854775807 := by simp; omega
  have s2 : (groupedS p.a ++ [47]).length + (Lib.itoa p.n).length ≤ 9223372036854775807 := by simp; omega
  replace hr := Lib.hid hr
  replace c1 := Lib.hid c1
  replace h6 := Lib.hid h6
  replace s1 := Lib.hid s1
  replace s2 := Lib.hid s2
  clear hp hc l0 l1
  unfold vPf
  go_enter Tryz.func66, Tryz.ntmps66
  go_wp2_with (refine wpList_quiet (C := Bz w [(w.heap.size, oP p)]) 3 (by rfl) B ?_)
  refine wpQuiet_hide ?_
  intro lq hlq
  refine wpQuiet_step_h hlq ?_
  clear hlq lq
  intro K lq hlq hK
  refine wanted_go (by rfl) ?_
  refine ⟨vPf p, fun W hW => ?_, ?_⟩
  · skip
    exact quiet_load 55 _ rfl rfl (ldP (hW.all.get 0 (x := (w.heap.size, oP p)) rfl) Hp.out)
  refine hK _ ?_
  clear hK K
  (try simp only [Act.put, List.setIfInBounds_toArray, List.set_cons_zero, List.set_cons_succ])
  refine wpQuiet_step_h hlq ?_
  clear hlq lq
  intro K lq hlq hK
  refine wanted_go (by rfl) ?_
  refine ⟨.int .i64 0, fun W hW => ?_, ?_⟩
  · go_simp
    exact (rchk_call Hp.out c1.out).mono fun e W2 hc2 => ⟨hc2.1, hW.go hc2.2⟩
  refine hK _ ?_
  clear hK K
  (try simp only [Act.put, List.setIfInBounds_toArray, List.set_cons_zero, List.set_cons_succ])
  refine wpQuiet_step_h hlq ?_
  clear hlq lq
  intro K lq hlq hK
  refine wanted_go (by rfl) ?_
  refine ⟨?_, fun W hW => ?_, ?_⟩
  rotate_left
  · skip
    go_simp
    with_reducible rfl
  refine hK _ ?_
  clear hK K
  (try simp only [Act.put, List.setIfInBounds_toArray, List.set_cons_zero, List.set_cons_succ])
  refine wpQuiet_nil_h hlq ?_
  clear hlq lq B
  intro V1 hV2
  go_wp2_with (refine wpList_quiet (C := Bz w [(w.heap.size, oP p)]) 3 (by rfl) hV2 ?_)
  refine wpQuiet_hide ?_
  intro lq hlq
  refine wpQuiet_step_h hlq ?_
  clear hlq lq
  intro K lq hlq hK
  refine wanted_go (by rfl) ?_
  refine ⟨vPf p, fun W hW => ?_, ?_⟩
  · skip
    exact quiet_load 55 _ rfl rfl (ldP (hW.all.get 0 (x := (w.heap.size, oP p)) rfl) Hp.out)
  refine hK _ ?_
  clear hK K
  (try simp only [Act.put, List.setIfInBounds_toArray, List.set_cons_zero, List.set_cons_succ])
  refine wpQuiet_step_h hlq ?_
  clear hlq lq
  intro K lq hlq hK
  refine wanted_go (by rfl) ?_
  refine ⟨.int .i64 6, fun W hW => ?_, ?_⟩
  · go_simp
    exact (rpfam_call Hp.out h6.out).mono fun e W2 hc2 => ⟨hc2.1, hW.go hc2.2⟩
  refine hK _ ?_
  clear hK K
  (try simp only [Act.put, List.setIfInBounds_toArray, List.set_cons_zero, List.set_cons_succ])
  refine wpQuiet_step_h hlq ?_
  clear hlq lq
  intro K lq hlq hK
  refine wanted_go (by rfl) ?_
  refine ⟨?_, fun W hW => ?_, ?_⟩
  rotate_left
  · skip
    go_simp
    with_reducible rfl
  refine hK _ ?_
  clear hK K
  (try simp only [Act.put, List.setIfInBounds_toArray, List.set_cons_zero, List.set_cons_succ])
  refine wpQuiet_nil_h hlq ?_
  clear hlq lq hV2
  intro V3 hV4
  go_wp2_with fail
  refine wp_region_C (C := Bz w [(w.heap.size, oP p)]) (by kernel_rfl) (by kernel_rfl) (hV4.drew) ?_
  refine wpQuiet_hide ?_
  intro lq hlq
  refine wpQuiet_step_h hlq ?_
  clear hlq lq
  intro K lq hlq hK
  refine wanted_go (by rfl) ?_
  refine ⟨?_, fun W hW => ?_, ?_⟩
  rotate_left
  · skip
    go_simp
    with_reducible rfl
  refine hK _ ?_
  clear hK K
  (try simp only [Act.put, List.setIfInBounds_toArray, List.set_cons_zero, List.set_cons_succ])
  refine wpQuiet_step_h hlq ?_
  clear hlq lq
  intro K lq hlq hK
  refine wanted_go (by rfl) ?_
  refine ⟨vA p.a, fun W hW => ?_, ?_⟩
  · skip
    exact quiet_load 42 _ rfl rfl (ldPa (hW.all.get 0 (x := (w.heap.size, oP p)) rfl) Hp.out)
  refine hK _ ?_
  clear hK K
  (try simp only [Act.put, List.setIfInBounds_toArray, List.set_cons_zero, List.set_cons_succ])
  refine wpQuiet_step_h hlq ?_
  clear hlq lq
  intro K lq hlq hK
  refine wanted_go (by rfl) ?_
  refine ⟨.string ⟨(groupedS p.a).toArray⟩, fun W hW => ?_, ?_⟩
  · go_simp
    exact (sixes_any Hp.out.1).mono fun e W2 hc2 => ⟨hc2.1, hW.go hc2.2⟩
  refine hK _ ?_
  clear hK K
  (try simp only [Act.put, List.setIfInBounds_toArray, List.set_cons_zero, List.set_cons_succ])
  refine wpQuiet_step_h hlq ?_
  clear hlq lq
  intro K lq hlq hK
  refine wanted_go (by rfl) ?_
  refine ⟨.string ⟨(groupedS p.a ++ [47]).toArray⟩, fun W hW => ?_, ?_⟩
  · skip
    exact quiet_add rfl rfl rfl (str_add W _ _ s1.out)
  refine hK _ ?_
  clear hK K
  (try simp only [Act.put, List.setIfInBounds_toArray, List.set_cons_zero, List.set_cons_succ])
  refine wpQuiet_step_h hlq ?_
  clear hlq lq
  intro K lq hlq hK
  refine wanted_go (by rfl) ?_
  refine ⟨?_, fun W hW => ?_, ?_⟩
  rotate_left
  · skip
    go_simp
    with_reducible rfl
  refine hK _ ?_
  clear hK K
  (try simp only [Act.put, List.setIfInBounds_toArray, List.set_cons_zero, List.set_cons_succ])
  refine wpQuiet_step_h hlq ?_
  clear hlq lq
  intro K lq hlq hK
  refine wanted_go (by rfl) ?_
  refine ⟨.int .i64 p.n, fun W hW => ?_, ?_⟩
  · skip
    exact quiet_load 3 _ rfl rfl (ldPn (hW.all.get 0 (x := (w.heap.size, oP p)) rfl) Hp.out)
  refine hK _ ?_
  clear hK K
  (try simp only [Act.put, List.setIfInBounds_toArray, List.set_cons_zero, List.set_cons_succ])
  refine wpQuiet_step_h hlq ?_
  clear hlq lq
  intro K lq hlq hK
  refine wanted_go (by rfl) ?_
  refine ⟨.string ⟨(Lib.itoa p.n).toArray⟩, fun W hW => ?_, ?_⟩
  · go_simp
    exact (digits_call (by omega) (by omega)).mono fun e W2 hc2 => ⟨hc2.1, hW.go hc2.2⟩
  refine hK _ ?_
  clear hK K
  (try simp only [Act.put, List.setIfInBounds_toArray, List.set_cons_zero, List.set_cons_succ])
  refine wpQuiet_step_h hlq ?_
  clear hlq lq
  intro K lq hlq hK
  refine wanted_go (by rfl) ?_
  refine ⟨.string ⟨(groupedS p.a ++ [47] ++ Lib.itoa p.n).toArray⟩, fun W hW => ?_, ?_⟩
  · skip
    exact quiet_add rfl rfl rfl (str_add W _ _ s2.out)
  refine hK _ ?_
  clear hK K
  (try simp only [Act.put, List.setIfInBounds_toArray, List.set_cons_zero, List.set_cons_succ])
  refine wpQuiet_step_h hlq ?_
  clear hlq lq
  intro K lq hlq hK
  refine wanted_go (by rfl) ?_
  refine ⟨?_, fun W hW => ?_, ?_⟩
  rotate_left
  · skip
    go_simp
    with_reducible rfl
  refine hK _ ?_
  clear hK K
  (try simp only [Act.put, List.setIfInBounds_toArray, List.set_cons_zero, List.set_cons_succ])
  refine wpQuiet_nil_h hlq ?_
  clear hlq lq hV4
  intro V5 hV6
  go_wp2_with fail
  go_ret
  exact ⟨congrArg (fun l : List UInt8 => Ending.returned (.string ⟨l.toArray⟩)) (show groupedS p.a ++ 47 :: Lib.itoa p.n = pfxS p by rw [hr.out]; simp), hV6.bel⟩
set_option maxRecDepth 100000 in
set_option maxHeartbeats 1600000 in
theorem rpfx_bad {w : World} {p : Pf} (hp : p.ok) (hc : chk p = false) : Calls Tryz.prog 66 #[vPf p] w fun e w' => e = .returned (.string ⟨(pfxS p).toArray⟩) ∧ Below w.heap.size w w' := by
  have hr := Lib.hid (pfx_no hc)
  have B := ((Bz.start w).alloc (oP p) rfl : Bz w [(w.heap.size, oP p)] _)
  have Hp := Lib.hid hp
  have c1 : (if chk p then (0 : Int) else 21) = 21 := by rw [hc]; rfl
  replace c1 := Lib.hid c1
  clear hp hc
  unfold vPf
  go_enter Tryz.func66, Tryz.ntmps66
  go_wp2_with (refine wpList_quiet (C := Bz w [(w.heap.size, oP p)]) 3 (by rfl) B ?_)
  refine wpQuiet_hide ?_
  intro lq hlq
  refine wpQuiet_step_h hlq ?_
  clear hlq lq
  intro K lq hlq hK
  refine wanted_go (by rfl) ?_
  refine ⟨vPf p, fun W hW => ?_, ?_⟩
  · skip
    exact quiet_load 55 _ rfl rfl (ldP (hW.all.get 0 (x := (w.heap.size, oP p)) rfl) Hp.out)
  refine hK _ ?_
  clear hK K
  (try simp only [Act.put, List.setIfInBounds_toArray, List.set_cons_zero, List.set_cons_succ])
  refine wpQuiet_step_h hlq ?_
  clear hlq lq
  intro K lq hlq hK
  refine wanted_go (by rfl) ?_
  refine ⟨.int .i64 21, fun W hW => ?_, ?_⟩
  · go_simp
    exact (rchk_call Hp.out c1.out).mono fun e W2 hc2 => ⟨hc2.1, hW.go hc2.2⟩
  refine hK _ ?_
  clear hK K
  (try simp only [Act.put, List.setIfInBounds_toArray, List.set_cons_zero, List.set_cons_succ])
  refine wpQuiet_step_h hlq ?_
  clear hlq lq
  intro K lq hlq hK
  refine wanted_go (by rfl) ?_
  refine ⟨?_, fun W hW => ?_, ?_⟩
  rotate_left
  · skip
    go_simp
    with_reducible rfl
  refine hK _ ?_
  clear hK K
  (try simp only [Act.put, List.setIfInBounds_toArray, List.set_cons_zero, List.set_cons_succ])
  refine wpQuiet_nil_h hlq ?_
  clear hlq lq B
  intro V1 hV2
  go_wp2_with fail
  go_ret
  exact ⟨by rw [hr.out]; rfl, hV2.bel⟩
/-- PrintPrefix. -/
theorem rpfx_any {w : World} {p : Pf} (hp : p.ok) : Calls Tryz.prog 66 #[vPf p] w fun e w' => e = .returned (.string ⟨(pfxS p).toArray⟩) ∧ Below w.heap.size w w' := by
  cases hc : chk p with
  | false => exact rpfx_bad hp hc
  | true =>
    rcases pfam_or p with h | h
    · exact rpfx_4 hp hc h
    · exact rpfx_6 hp hc h
end Go.Proofs.YtnljjlaececnkaaGreatDoor
/-
  The document's groups. Condition: a text is no longer than memory has room for.
-/
namespace Go.Proofs.YtnljjlaececnkaaGreatDoor
open Go.RowKit
set_option linter.unusedVariables false
set_option linter.unusedSimpArgs false
theorem Tryz.info3 : (Tryz.prog.info? 3).map (fun i => (i.zero, i.size, i.bytes)) = some (some (.int .i64 0), 1, 8) := by kernel_rfl
def nats (l : List Nat) : List Value := l.map (fun u : Nat => Value.int .i64 (Int.ofNat u))
def grpU (t : ByteArray) : Nat := (grpS t).getD 0
/-- The groups of a text. -/
def grpN (s : ByteArray) : Option (List Nat) := if s.size = 0 then some [] else if (cutB 58 s).all (fun t => (grpS t).isSome) then some ((cutB 58 s).map grpU) else none
theorem grpsN (s : ByteArray) : grpsS s = (grpN s).map fb := by
  unfold grpsS grpN
  split
  · rfl
  · unfold grpsL
    rw [show pieces s colB = cutB 58 s from pieces_eq 58 s]
    split
    · simp only [Option.map_some, fb, List.map_map]; rfl
    · rfl
theorem cutL_len (c : UInt8) : ∀ l : List UInt8, (cutL c l).length ≤ l.length + 1
  | [] => by simp [cutL]
  | x :: l => by
    have ih := cutL_len c l
    unfold cutL
    split
    · simp; omega
    · have : ∀ (p : List UInt8) (q : List (List UInt8)), q ≠ [] → (glue p q).length = q.length := fun p q h => by cases q with
        | nil => exact absurd rfl h
        | cons a b => rfl
      rw [this _ _ (cutL_ne _ _)]; simp; omega
theorem cutB_len (c : UInt8) (s : ByteArray) : 0 < (cutB c s).length ∧ (cutB c s).length ≤ s.size + 1 := by
  have h1 := cutL_len c s.data.toList
  have h2 := List.length_pos_iff.2 (cutL_ne c s.data.toList)
  rw [len_data] at h1
  unfold cutB
  rw [List.length_map]
  exact ⟨h2, h1⟩
theorem grpN_no {s t : ByteArray} {i : Nat} (h0 : s.size ≠ 0) (ht : (cutB 58 s)[i]? = some t) (hn : grpS t = none) : grpN s = none := by
  unfold grpN
  refine (if_neg h0).trans (if_neg fun h => ?_)
  have := List.all_eq_true.1 h t (List.mem_of_getElem? ht)
  rw [hn] at this; cases this
theorem grpN_yes {s : ByteArray} (h0 : s.size ≠ 0) (h : ∀ t ∈ cutB 58 s, (grpS t).isSome = true) : grpN s = some ((cutB 58 s).map grpU) := by
  unfold grpN
  exact (if_neg h0).trans (if_pos (List.all_eq_true.2 h))
def GrpNR (w : World) (s : ByteArray) (e : Ending) (W' : World) : Prop := ∃ v, e = .returned (.tuple #[v, .bool (grpN s).isSome]) ∧ W'.ownsRow 0 3 1 v ((grpN s).getD []).length (nats ((grpN s).getD [])) ∧ Lo w.heap.size v
theorem GrpNR.no {w W' : World} {s : ByteArray} (h : grpN s = none) : GrpNR w s (.returned (.tuple #[.slice none 0 0, .bool false])) W' := ⟨_, by rw [h]; rfl, by rw [h]; exact own_nil _ _ _, fun b hb => by simp [Value.ownBlock] at hb⟩
set_option maxRecDepth 100000 in
set_option maxHeartbeats 1600000 in
/-- groups of the document. -/
theorem ref_groups {w : World} {s : ByteArray} (hs : s.size < 4294967281) : Calls Tryz.prog 163 #[.string s] w fun e w' => GrpNR w s e w' ∧ Below w.heap.size w w' := by
  by_cases h0 : s.size = 0
  · obtain rfl : s = ⟨#[]⟩ := ba_eq (by
      have := len_data s
      exact List.eq_nil_of_length_eq_zero (by omega))
    go_enter Tryz.func163, Tryz.ntmps163
    go_wp2
    go_ret2
    exact ⟨⟨_, rfl, own_nil _ _ _, fun b hb => by simp [Value.ownBlock] at hb⟩, Below.refl _ _⟩
  · have he := emp_false h0
    have hcut : ∀ W : World, Calls Tryz.prog 100 #[.string s, .int .u8 58] W fun e w' => (∃ v, e = .returned v ∧ w'.ownsRow 0 9 1 v (cutB 58 s).length (strs (cutB 58 s)) ∧ Lo W.heap.size v) ∧ Below W.heap.size W w' := fun W => cut100_any hs 58
    obtain ⟨hn0, hn1⟩ := cutB_len 58 s
    have hfin : Hid ((∀ (i : Nat) t, (cutB 58 s)[i]? = some t → grpS t = none → grpN s = none) ∧ ((∀ t ∈ cutB 58 s, (grpS t).isSome = true) → grpN s = some ((cutB 58 s).map grpU))) := Lib.hid ⟨fun i t => grpN_no h0, grpN_yes h0⟩
    generalize hL : cutB 58 s = L at *
    obtain ⟨n, hn⟩ : ∃ n, L.length = n := ⟨_, rfl⟩
    rw [hn] at hcut hn0 hn1
    clear h0 hL
    go_enter Tryz.func163, Tryz.ntmps163
    go_wp2_with (go_at_call 100; refine (hcut _).mono ?_; rintro e w1 ⟨⟨v, rfl, hrow, low⟩, bel⟩; obtain ⟨A, c2, rfl, hc1, hc2⟩ := own_slice hrow; obtain ⟨k, rfl, -, hk, hcell, hfr, -⟩ := own_at hrow hn0; have hcell := Lib.hid hcell; have hfr := Lib.hid hfr)
    go_loopw [4, 6] (fun x4 x6 wr => ∃ i : Nat, x6 = .int .i64 i ∧ i ≤ n ∧ wr.ownsRow 0 3 1 x4 i (nats ((L.take i).map grpU)) ∧ Lo w1.heap.size x4 ∧ Below w1.heap.size w1 wr ∧ Hid (∀ t ∈ L.take i, (grpS t).isSome = true)) (fun x4 x6 wr => n - (intOf x6).toNat)
    case atStart => exact ⟨0, rfl, Nat.zero_le _, by simpa [nats] using own_nil _ _ _, fun b h => by simp [Value.ownBlock] at h, Below.refl _ _, Lib.hid (fun t h => by simp at h)⟩
    case round =>
      obtain ⟨i, rfl, hi, ho, lo, bel1, hall⟩ := hrel
      by_cases hlt : i < n
      · obtain ⟨t, ht⟩ : ∃ t, L[i]? = some t := ⟨L[i]'(by omega), List.getElem?_eq_getElem (by omega)⟩
        have hc : wr.cell? ⟨k, i, none⟩ = some (.string t) := (Below.cell bel1 hk).trans (hcell.out i _ (by unfold strs; rw [List.getElem?_map, ht]; rfl))
        cases hg : grpS t with
        | none =>
          have hx : ∀ W : World, Calls Tryz.prog 207 #[.string t] W fun e w' => e = .returned (.tuple #[.int .i64 0, .bool false]) ∧ w' = W := fun W => by
            have := hex207_any (w := W) t
            rwa [HexV_no hg] at this
          have hno := Lib.hid (hfin.out.1 i t ht hg)
          clear hg ht
          go_wp2_with (go_at_call 207; refine (hx _).mono ?_; rintro e w2 ⟨rfl, rfl⟩)
          go_ret2
          exact ⟨GrpNR.no hno.out, bel.trans (bel1.mono bel.size)⟩
        | some m =>
          have hx : ∀ W : World, Calls Tryz.prog 207 #[.string t] W fun e w' => e = .returned (.tuple #[.int .i64 m, .bool true]) ∧ w' = W := fun W => by
            have := hex207_any (w := W) t
            rwa [HexV_yes hg] at this
          have hnx : Hid (nats ((L.take (i + 1)).map grpU) = nats ((L.take i).map grpU) ++ [.int .i64 m]) := Lib.hid (by
            rw [take_snoc ht, List.map_append]; unfold nats; rw [List.map_append]; simp [grpU, hg])
          have hal : Hid (∀ t ∈ L.take (i + 1), (grpS t).isSome = true) := Lib.hid (by
            intro x hx
            rw [take_snoc ht] at hx
            rcases List.mem_append.1 hx with hx | hx
            · exact hall.out x hx
            · rw [List.mem_singleton.1 hx, hg]; rfl)
          clear hg ht
          go_wp2_with (first | (go_at_call 207; refine (hx _).mono ?_; rintro e w2 ⟨rfl, rfl⟩) | (at_builtin; refine wpList_app1 rfl (.tmp 29) (.tmp 31) 188 rfl Tryz.underlying188 Tryz.info3 rfl (by decide) (by decide) [.int .i64 m] rfl (by intro z hz; simp at hz; subst hz; rfl) rfl ho rfl (by omega) ?_; intro v' w2 ho2 hn2 hf2))
          refine ⟨⟨i + 1, by congr 1, by omega, by rw [hnx.out]; exact ho2, lo.next hn2 bel1.size, bel1.trans (hf2.belowB lo bel1.size), hal⟩, by simp [intOf]; omega⟩
      · obtain rfl : i = n := by omega
        have hyes := hfin.out.2 (by have := hall.out; rwa [List.take_of_length_le (by omega)] at this)
        have hty : L.take i = L := List.take_of_length_le (by omega)
        rw [hty] at ho
        have hl2 : (L.map grpU).length = i := by rw [List.length_map, hn]
        replace hyes := Lib.hid hyes
        clear hty
        obtain ⟨A, c3, rfl, hd1, hd2⟩ := own_slice ho
        go_wp2
        go_ret2
        exact ⟨⟨_, by rw [hyes.out]; rfl, by rw [hyes.out]; show wr.ownsRow 0 3 1 _ (L.map grpU).length _; rw [hl2]; exact ho, lo.mono bel.size⟩, bel.trans (bel1.mono bel.size)⟩
end Go.Proofs.YtnljjlaececnkaaGreatDoor
/-
  The document's four numbers. Condition: a text is no longer than memory has room for.
-/
namespace Go.Proofs.YtnljjlaececnkaaGreatDoor
open Go.RowKit
set_option linter.unusedVariables false
set_option linter.unusedSimpArgs false
theorem octS_of {t : ByteArray} {n : Int} (h : decF t.data.toList 3 = some n) : (n ≤ 255 → octS t = some n) ∧ (255 < n → octS t = none) := by
  have hd : decS t 3 = some n := by rw [decS_F (by decide), h]
  unfold octS
  rw [hd]
  exact ⟨fun hn => if_pos hn, fun hn => if_neg (by omega)⟩
theorem octS_no {t : ByteArray} (h : decF t.data.toList 3 = none) : octS t = none := by
  have hd : decS t 3 = none := by rw [decS_F (by decide), h]
  unfold octS; rw [hd]
theorem map_built : Tryz.prog.built 42 [(10, .int .u8 255), (11, .int .u8 255)] = some (nums .u8 (quadPart [] 0)).toArray := by kernel_rfl
set_option maxRecDepth 100000 in
set_option maxHeartbeats 1600000 in
/-- four. -/
theorem four_any {w : World} {s : ByteArray} (hs : s.size < 4294967281) : Calls Tryz.prog 103 #[.string s] w fun e w' => QuadR (quadS s) e ∧ Below w.heap.size w w' := by
  have hcut : ∀ W : World, Calls Tryz.prog 100 #[.string s, .int .u8 46] W fun e w' => (∃ v, e = .returned v ∧ w'.ownsRow 0 9 1 v (cutB 46 s).length (strs (cutB 46 s)) ∧ Lo W.heap.size v) ∧ Below W.heap.size W w' := fun W => cut100_any hs 46
  obtain ⟨hn0, hn1⟩ := cutB_len 46 s
  have hl : pieces s dotB = cutB 46 s := pieces_eq 46 s
  generalize cutB 46 s = L at *
  obtain ⟨n, hn⟩ : ∃ n, L.length = n := ⟨_, rfl⟩
  rw [hn] at hcut hn0 hn1
  have hno := Lib.hid (fun h => quad_no (s := s) hl (.inl h))
  have hno2 := Lib.hid (fun h => quad_no (s := s) hl (.inr h))
  have hyes := Lib.hid (fun h4 => quad_yes (s := s) hl h4)
  clear hl
  have ok0 := Lib.hid (quadPart_ok (l := [] ++ [⟨#[]⟩, ⟨#[]⟩, ⟨#[]⟩, ⟨#[]⟩]) rfl (i := 0) (by omega))
  rw [quadPart_zero] at ok0
  have hb0 := map_built
  obtain ⟨q0, hq0⟩ : ∃ q0, quadPart [] 0 = q0 := ⟨_, rfl⟩
  rw [hq0] at ok0 hb0
  have Hq0 := Lib.hid hq0
  clear hq0
  have B := ((Bz.start w).alloc (oA zeroA) rfl : Bz w [(w.heap.size, oA zeroA)] _)
  go_enter Tryz.func103, Tryz.ntmps103
  go_wp2_with (refine wpList_quiet_take (C := Bz w [(w.heap.size, oA zeroA)]) 3 1 (by rfl) B ?_)
  (try simp only [List.take_succ_cons, List.take_zero, List.drop_succ_cons, List.drop_zero])
  refine wpQuiet_hide ?_
  intro lq hlq
  refine wpQuiet_step_h hlq ?_
  clear hlq lq
  intro K lq hlq hK
  refine wanted_go (by rfl) ?_
  refine ⟨vA q0, fun W hW => ?_, ?_⟩
  · skip
    exact quiet_build2 rfl rfl rfl hb0
  refine hK _ ?_
  clear hK K
  (try simp only [Act.put, List.setIfInBounds_toArray, List.set_cons_zero, List.set_cons_succ])
  refine wpQuiet_nil_h hlq ?_
  clear hlq lq B
  intro V1 hV2
  refine wpList_new rfl rfl rfl rfl z42 rfl (by rfl) (by rfl) (info42 ok0.out) (sizeA' ok0.out) (numsA_one _) ?_
  (try simp only [Act.put, List.setIfInBounds_toArray, List.set_cons_zero, List.set_cons_succ])
  have hB3 : Bz w [(V1.heap.size, oA q0), (w.heap.size, oA zeroA)] (V1.alloc (oA q0)) := hV2.alloc (oA q0) rfl
  clear hV2
  have hr0 : (V1.alloc (.cells (nums .u8 q0).toArray 42)).heap[V1.heap.size]? = some (oA q0) := hB3.all.1
  have hz0 : (V1.alloc (.cells (nums .u8 q0).toArray 42)).heap[w.heap.size]? = some (oA zeroA) := hB3.all.2.1
  have bel0 : Below w.heap.size w (V1.alloc (.cells (nums .u8 q0).toArray 42)) := hB3.bel
  have hwg : w.heap.size < V1.heap.size := (List.pairwise_cons.1 hB3.ord).1 (w.heap.size, oA zeroA) (by simp)
  clear hB3
  generalize V1.alloc (.cells (nums .u8 q0).toArray 42) = W0 at *
  generalize V1.heap.size = g at *
  have hg0 := lt_of_obj hr0
  replace hr0 := Lib.hid hr0
  replace hz0 := Lib.hid hz0
  by_cases h4 : n = 4
  · subst h4
    go_wp2_with (go_at_call 100; refine (hcut _).mono ?_; rintro e w1 ⟨⟨v, rfl, hrow, low⟩, bel⟩; obtain ⟨A, c2, rfl, hc1, hc2⟩ := own_slice hrow; obtain ⟨k, rfl, -, hk, hcell, hfr, -⟩ := own_at hrow hn0; have hcell := Lib.hid hcell; have hfr := Lib.hid hfr; have hkl := low k rfl)
    have hno4 := Lib.hid (fun (i : Nat) t (h : L[i]? = some t) (ho : octS t = none) => hno2.out ⟨t, List.mem_of_getElem? h, ho⟩)
    have hk2 : k ≠ g := fun e => by omega
    have hr1 := Below.box hr0.out bel hg0
    have hz1 := Below.box hz0.out bel (by omega)
    have belw := bel0.trans (bel.mono bel0.size)
    go_loopw [6] (fun x6 wr => ∃ i : Nat, x6 = .int .i64 i ∧ i ≤ 4 ∧ Hid (∀ (j : Nat) t, j < i → L[j]? = some t → (octS t).isSome = true) ∧ Hid (wr.heap[g]? = some (oA (quadPart L i))) ∧ Hid (wr.heap[w.heap.size]? = some (oA zeroA)) ∧ Hid (wr.heap[k]? = w1.heap[k]?) ∧ Below w.heap.size w wr ∧ wr.heap.size = w1.heap.size) (fun x6 wr => 4 - (intOf x6).toNat)
    case atStart => exact ⟨0, rfl, by omega, Lib.hid fun j t h => by omega, Lib.hid (by rw [quadPart_zero, Hq0.out]; exact hr1), Lib.hid hz1, Lib.hid rfl, belw, rfl⟩
    case round =>
      obtain ⟨i, rfl, hi, hall, hr, hz, hw, bel2, hsz⟩ := hrel
      by_cases hlt : i < 4
      · obtain ⟨t, ht⟩ := get_some (l := L) (j := i) (by omega)
        have c0 : wr.cell? ⟨k, i, none⟩ = some (.string t) := (World.cell?_of_block (w := w1) hw.out).trans (hcell.out i _ (by unfold strs; rw [List.getElem?_map, ht]; rfl))
        cases hd : decF t.data.toList 3 with
        | none =>
          have hx : ∀ W : World, Calls Tryz.prog 118 #[.string t, .int .i64 3] W fun e w' => e = .returned (.tuple #[.int .i64 0, .bool false]) ∧ w' = W := fun W => by
            have := dec118_any (w := W) t (most := 3) (by decide)
            rwa [DecF_no hd] at this
          have hq := Lib.hid (hno4.out i t ht (octS_no hd))
          clear ht hd
          go_wp2_with (first
            | (go_at_call 118; refine (hx _).mono ?_; rintro e w2 ⟨rfl, rfl⟩)
            | (refine wpList_store_row rfl 42 (.tmp 2) (.tmp 34) rfl w.heap.size (nums .u8 zeroA).toArray rfl rfl 42 (nums .u8 zeroA).toArray hz.out (info42 zeroA_ok) rfl (numsA_one _) ?_))
          refine bodyPost_ret (v := .tuple #[vA zeroA, .bool false]) ?_ rfl ⟨by unfold QuadR; rw [hq.out]; rfl, below_row bel2 (Nat.le_refl _) _⟩
          exact results_cell_tmp rfl _ _ rfl (BoxA.run (a := zeroA) (setRow_heap _ _ _ _ _ _ hz.out) zeroA_ok) rfl
        | some u =>
          have hx : ∀ W : World, Calls Tryz.prog 118 #[.string t, .int .i64 3] W fun e w' => e = .returned (.tuple #[.int .i64 u, .bool true]) ∧ w' = W := fun W => by
            have := dec118_any (w := W) t (most := 3) (by decide)
            rwa [DecF_yes hd] at this
          obtain ⟨o1, o2⟩ := octS_of hd
          by_cases hu : 255 < u
          · have hq := Lib.hid (hno4.out i t ht (o2 hu))
            have hgt : decide (255 < u) = true := decide_eq_true hu
            clear ht hd o1 o2
            go_wp2_with (first
              | (go_at_call 118; refine (hx _).mono ?_; rintro e w2 ⟨rfl, rfl⟩)
              | (refine wpList_store_row rfl 42 (.tmp 2) (.tmp 34) rfl w.heap.size (nums .u8 zeroA).toArray rfl rfl 42 (nums .u8 zeroA).toArray hz.out (info42 zeroA_ok) rfl (numsA_one _) ?_))
            refine bodyPost_ret (v := .tuple #[vA zeroA, .bool false]) ?_ rfl ⟨by unfold QuadR; rw [hq.out]; rfl, below_row bel2 (Nat.le_refl _) _⟩
            exact results_cell_tmp rfl _ _ rfl (BoxA.run (a := zeroA) (setRow_heap _ _ _ _ _ _ hz.out) zeroA_ok) rfl
          · have ho := o1 (by omega)
            obtain ⟨v0, v1⟩ := octS_rng ho
            have hov : octV t = u := by unfold octV; rw [ho]; rfl
            obtain ⟨st1, st2⟩ := quadPart_set hlt hn ht
            rw [hov] at st1
            have hall2 : Hid (∀ (j : Nat) u, j < i + 1 → L[j]? = some u → (octS u).isSome = true) := Lib.hid fun j u hj hu => by
              by_cases hji : j = i
              · subst hji; rw [ht] at hu; cases hu; rw [ho]; rfl
              · exact hall.out j u (by omega) hu
            have g1 : decide (255 < u) = false := decide_eq_false (by omega)
            have wr1 : IntKind.i64.wrap (12 + (i : Int)) = 12 + i := IntWalk.i64_in _ (by omega)
            have wr2 : IntKind.u8.wrap u = u := IntWalk.u8_in _ (by omega)
            have c1 : wr.cell? ⟨g, 12 + i, none⟩ = some (.int .u8 0) := (row_cell hr.out).trans (by rw [List.getElem?_toArray]; exact nums_get st2)
            have f1 : wr.frozen? ⟨g, 12 + i, none⟩ = false := row_free hr.out
            replace st1 := Lib.hid st1
            clear ht hd o1 o2 ho hov st2
            go_wp2_with (go_at_call 118; refine (hx _).mono ?_; rintro e w2 ⟨rfl, rfl⟩)
            have fr1 := Fr.setCell (S := fun b => b = g) (Fr.refl _ w2) (p := ⟨g, 12 + i, none⟩) (.inl rfl) (.int .u8 u)
            refine ⟨⟨i + 1, by go_num, by omega, hall2, Lib.hid (row_set hr.out (i := 12 + i) (cs' := (nums .u8 (quadPart L (i + 1))).toArray) (.int .u8 u) (by rw [List.setIfInBounds_toArray, nums_set, st1.out])), Lib.hid (fr1.obj hz.out (by omega)), Lib.hid ((fr1.block k (by omega) hk2).trans hw.out), bel2.trans (fr1.belowS (fun b hb => by omega) bel2.size), ?_⟩, ?_⟩
            · simp [World.setCell]; omega
            · simp [intOf]; omega
      · obtain rfl : i = 4 := by omega
        have hq := Lib.hid (hyes.out hn (fun j t ht => hall.out j t (by have := (List.getElem?_eq_some_iff.1 ht).1; omega) ht))
        have ok := Lib.hid (quadPart_ok hn (Nat.le_refl 4))
        go_wp2_with (first
          | (refine wpList_load_mid rfl 42 (.tmp 4) rfl g 0 rfl (nums .u8 (quadPart L 4)) _ (row_load hr.out) Tryz.underlying42 rfl (info42 ok.out) ?_)
          | (refine wpList_store_row rfl 42 (.tmp 2) (.tmp 40) rfl w.heap.size (nums .u8 (quadPart L 4)).toArray rfl rfl 42 (nums .u8 zeroA).toArray hz.out (info42 ok.out) (by rw [sizeA zeroA_ok, sizeA ok.out]) (numsA_one _) ?_))
        refine bodyPost_ret (v := .tuple #[vA (quadPart L 4), .bool true]) ?_ rfl ⟨by unfold QuadR; rw [hq.out]; rfl, below_row bel2 (Nat.le_refl _) _⟩
        exact results_cell_tmp rfl _ _ rfl (BoxA.run (a := quadPart L 4) (setRow_heap _ _ _ _ _ _ hz.out) ok.out) rfl
  · have hq := Lib.hid (hno.out (by omega))
    have hne : ((n : Int) == 4) = false := by simp; omega
    go_wp2_with (first
      | (go_at_call 100; refine (hcut _).mono ?_; rintro e w1 ⟨⟨v, rfl, hrow, low⟩, bel⟩; obtain ⟨A, c2, rfl, hc1, hc2⟩ := own_slice hrow; have hz1 := Lib.hid (Below.box hz0.out bel (by omega)))
      | (refine wpList_store_row rfl 42 (.tmp 2) (.tmp 15) rfl w.heap.size (nums .u8 zeroA).toArray rfl rfl 42 (nums .u8 zeroA).toArray hz1.out (info42 zeroA_ok) rfl (numsA_one _) ?_))
    have bel1 := bel0.trans (bel.mono bel0.size)
    refine bodyPost_ret (v := .tuple #[vA zeroA, .bool false]) ?_ rfl ⟨by unfold QuadR; rw [hq.out]; rfl, below_row bel1 (Nat.le_refl _) _⟩
    exact results_cell_tmp rfl _ _ rfl (BoxA.run (a := zeroA) (setRow_heap _ _ _ _ _ _ hz1.out) zeroA_ok) rfl
end Go.Proofs.YtnljjlaececnkaaGreatDoor
/-
  Plain laws of eight groups. No condition.
-/
namespace Go.Proofs.YtnljjlaececnkaaGreatDoor
open Go.RowKit
set_option linter.unusedVariables false
set_option linter.unusedSimpArgs false
def gapAt (s : ByteArray) (j : Nat) : Prop := s.data.toList[j]? = some 58 ∧ s.data.toList[j + 1]? = some 58
theorem gapB_list : gapB.data.toList = [58, 58] := rfl
theorem cut_none {s : ByteArray} (h : ∀ j, ¬ gapAt s j) : Lib.cut s.data.toList gapB.data.toList = (s.data.toList, [], false) := by
  rw [gapB_list]
  unfold Lib.cut
  rw [Lib.index_none (fun j _ => by rw [Bool.eq_false_iff]; intro ho; exact h j ((occ_two _ j).1 ho)), if_neg (by decide)]
theorem cut_some {s : ByteArray} {g : Nat} (h : gapAt s g) (hn : ∀ j, j < g → ¬ gapAt s j) : Lib.cut s.data.toList gapB.data.toList = (s.data.toList.take g, s.data.toList.drop (g + 2), true) := by
  rw [gapB_list]
  have hg := (List.getElem?_eq_some_iff.1 h.2).1
  unfold Lib.cut
  rw [Lib.index_first (i := g) (by omega) ((occ_two _ _).2 h) (fun j hj => by rw [Bool.eq_false_iff]; intro ho; exact hn j hj ((occ_two _ j).1 ho)), if_pos (by omega)]
  simp
theorem gap_lt {s : ByteArray} {g : Nat} (h : gapAt s g) : g + 1 < s.size := by
  have := (List.getElem?_eq_some_iff.1 h.2).1
  rwa [len_data] at this
/-- Is there a gap, and where first? -/
theorem gap_or (s : ByteArray) : (∀ j, ¬ gapAt s j) ∨ ∃ g, gapAt s g ∧ ∀ j, j < g → ¬ gapAt s j := by
  by_cases h : ∃ g, gapAt s g
  · right
    obtain ⟨g, hg⟩ := h
    induction g using Nat.strongRecOn with
    | _ g ih =>
      by_cases h2 : ∃ j, j < g ∧ gapAt s j
      · obtain ⟨j, hj, hjg⟩ := h2
        exact ih j hj hjg
      · exact ⟨g, hg, fun j hj hjg => h2 ⟨j, hj, hjg⟩⟩
  · exact .inl fun j hj => h ⟨j, hj⟩
theorem ba_list (s : ByteArray) : (⟨s.data.toList.toArray⟩ : ByteArray) = s := ba_eq (by simp)
/-- The groups of a text without a gap. -/
theorem col_flat {s : ByteArray} (h : ∀ j, ¬ gapAt s j) : (grpN s = none → colS s = none) ∧ ∀ G, grpN s = some G → (G.length ≠ 8 → colS s = none) ∧ (G.length = 8 → colS s = some (fb G)) := by
  have hc := cut_none h
  refine ⟨fun hn => col_no hc (.inl (by rw [ba_list, grpsN, hn]; rfl)), fun G hG => ?_⟩
  have hy := col_yes (b := fb G) (c := []) hc (by rw [ba_list, grpsN, hG]; rfl) rfl
  rw [fb_len] at hy
  refine ⟨fun h8 => by rw [hy, if_pos (.inl ⟨rfl, by omega⟩)], fun h8 => ?_⟩
  rw [hy, if_neg]
  · unfold fillA
    rw [fb_len, h8]; simp
  · rintro (⟨-, h⟩ | ⟨h, -⟩)
    · omega
    · cases h
theorem col_gapped {s : ByteArray} {g : Nat} (h : gapAt s g) (hn : ∀ j, j < g → ¬ gapAt s j) {l r : ByteArray} (hl : l.data.toList = s.data.toList.take g) (hr : r.data.toList = s.data.toList.drop (g + 2)) :
    (grpN l = none ∨ grpN r = none → colS s = none) ∧ ∀ b c, grpN l = some b → grpN r = some c → (7 < b.length + c.length → colS s = none) ∧ (b.length + c.length ≤ 7 → colS s = some (fb (b ++ List.replicate (8 - b.length - c.length) 0 ++ c))) := by
  have hc := cut_some h hn
  rw [← hl, ← hr] at hc
  refine ⟨fun hn => col_no hc (by rw [ba_list, ba_list, grpsN, grpsN]; rcases hn with hn | hn <;> rw [hn] <;> simp), fun b c hb hcc => ?_⟩
  have hy := col_yes (b := fb b) (c := fb c) hc (by rw [ba_list, grpsN, hb]; rfl) (by rw [ba_list, grpsN, hcc]; rfl)
  rw [fb_len, fb_len] at hy
  refine ⟨fun h8 => by rw [hy, if_pos (.inr ⟨rfl, by omega⟩)], fun h8 => ?_⟩
  rw [hy, if_neg]
  · unfold fillA
    rw [fb_app, fb_app, fb_zeros, fb_len, fb_len, show 2 * (8 - b.length - c.length) = 16 - 2 * b.length - 2 * c.length by omega]
  · rintro (⟨h, -⟩ | ⟨-, h⟩)
    · cases h
    · omega
theorem grpU_lt (t : ByteArray) : grpU t < 65536 := by
  unfold grpU
  cases h : grpS t with
  | none => decide
  | some u => exact (grp_some h).2.2.2.1
theorem grpN_lt {s : ByteArray} {G : List Nat} (h : grpN s = some G) : ∀ u ∈ G, u < 65536 := by
  unfold grpN at h
  split at h
  · cases h; intro u hu; cases hu
  · split at h
    · cases h
      intro u hu
      obtain ⟨t, -, rfl⟩ := List.mem_map.1 hu
      exact grpU_lt t
    · cases h
theorem grpN_len {s : ByteArray} {G : List Nat} (h : grpN s = some G) : G.length ≤ s.size + 1 := by
  unfold grpN at h
  split at h
  · cases h; simp
  · split at h
    · cases h; rw [List.length_map]; exact (cutB_len 58 s).2
    · cases h
/-- The bytes of the first j groups, and zeros. -/
def fbPart (G : List Nat) (j : Nat) : List Int := fb (G.take j) ++ List.replicate (16 - 2 * j) 0
theorem fb_rng {G : List Nat} (h : ∀ u ∈ G, u < 65536) : ∀ x ∈ fb G, 0 ≤ x ∧ x < 256 := by
  intro x hx
  unfold fb at hx
  obtain ⟨p, hp, hx⟩ := List.mem_flatten.1 hx
  obtain ⟨u, hu, rfl⟩ := List.mem_map.1 hp
  have := h u hu
  simp only [List.mem_cons, List.not_mem_nil, or_false] at hx
  rcases hx with rfl | rfl <;> omega
theorem fbPart_ok {G : List Nat} (h8 : G.length = 8) (h : ∀ u ∈ G, u < 65536) {j : Nat} (hj : j ≤ 8) : isA (fbPart G j) := by
  refine ⟨?_, fun x hx => ?_⟩
  · unfold fbPart
    rw [List.length_append, fb_len, List.length_take, List.length_replicate]; omega
  · rcases List.mem_append.1 hx with hx | hx
    · exact fb_rng (fun u hu => h u (List.mem_of_mem_take hu)) x hx
    · rw [(List.mem_replicate.1 hx).2]; decide
theorem fbPart_zero (G : List Nat) : fbPart G 0 = zeroA := rfl
theorem fbPart_all {G : List Nat} (h8 : G.length = 8) : fbPart G 8 = fb G := by
  unfold fbPart
  rw [List.take_of_length_le (by omega)]; simp
theorem fbPart_set {G : List Nat} (h8 : G.length = 8) {j : Nat} (hj : j < 8) {u : Nat} (hu : G[j]? = some u) : ((fbPart G j).set (2 * j) ((u / 256 : Nat) : Int)).set (2 * j + 1) ((u % 256 : Nat) : Int) = fbPart G (j + 1) := by
  have hl : (fb (G.take j)).length = 2 * j := by rw [fb_len, List.length_take]; omega
  have hr : List.replicate (16 - 2 * j) (0 : Int) = 0 :: 0 :: List.replicate (16 - 2 * (j + 1)) 0 := by
    rw [show 16 - 2 * j = (16 - 2 * (j + 1)) + 1 + 1 by omega, List.replicate_succ, List.replicate_succ]
  unfold fbPart
  rw [List.set_append_right _ _ (by omega), hl, Nat.sub_self, hr, List.set_cons_zero, List.set_append_right _ _ (by omega), hl, show 2 * j + 1 - 2 * j = 0 + 1 by omega, List.set_cons_succ, List.set_cons_zero, take_snoc hu, fb_app, List.append_assoc]
  rfl
end Go.Proofs.YtnljjlaececnkaaGreatDoor
/-
  The document's eight groups, a text without a gap. Condition: a text is no longer than memory has room for.
-/
namespace Go.Proofs.YtnljjlaececnkaaGreatDoor
open Go.RowKit
set_option linter.unusedVariables false
set_option linter.unusedSimpArgs false
theorem beq58 {b : UInt8} : ((b.toNat : Int) == 58) = decide (b = 58) := by
  by_cases h : b = 58
  · subst h; rfl
  · rw [decide_eq_false h, beq_eq_false_iff_ne]; intro e; exact h (UInt8.toNat_inj.1 (by have : (58 : UInt8).toNat = 58 := rfl; omega))
theorem groups_call {w : World} {s : ByteArray} (hs : s.size < 4294967281) {G : List Nat} {n : Nat} (h : grpN s = some G) (hn : G.length = n) : Calls Tryz.prog 163 #[.string s] w fun e w' => (∃ v, e = .returned (.tuple #[v, .bool true]) ∧ w'.ownsRow 0 3 1 v n (nats G) ∧ Lo w.heap.size v) ∧ Below w.heap.size w w' := by
  subst hn
  refine (ref_groups hs).mono fun e w' ⟨⟨v, he, ho, hl⟩, bel⟩ => ⟨⟨v, ?_, ?_, hl⟩, bel⟩
  · rw [he, h]; rfl
  · rw [h] at ho; exact ho
theorem groups_none {w : World} {s : ByteArray} (hs : s.size < 4294967281) (h : grpN s = none) : Calls Tryz.prog 163 #[.string s] w fun e w' => (∃ v, e = .returned (.tuple #[v, .bool false]) ∧ w'.ownsRow 0 3 1 v 0 [] ∧ Lo w.heap.size v) ∧ Below w.heap.size w w' := by
  refine (ref_groups hs).mono fun e w' ⟨⟨v, he, ho, hl⟩, bel⟩ => ⟨⟨v, ?_, ?_, hl⟩, bel⟩
  · rw [he, h]; rfl
  · rw [h] at ho; exact ho
set_option maxRecDepth 100000 in
set_option maxHeartbeats 1600000 in
theorem six_flat_no {w : World} {s : ByteArray} (hs : s.size < 4294967281) (hgap : ∀ j, ¬ gapAt s j) (hq : colS s = none) {G : List Nat} {n : Nat} {b : Bool} (hG : ∀ W : World, Calls Tryz.prog 163 #[.string s] W fun e w' => (∃ v, e = .returned (.tuple #[v, .bool b]) ∧ w'.ownsRow 0 3 1 v n (nats G) ∧ Lo W.heap.size v) ∧ Below W.heap.size W w') (hb : b = false ∨ b = true ∧ n ≠ 8) : Calls Tryz.prog 104 #[.string s] w fun e w' => QuadR (colS s) e ∧ Below w.heap.size w w' := by
  have bel0 : Below w.heap.size w (w.alloc (oA zeroA)) := (Below.refl _ _).alloc (Nat.le_refl _) _
  have hz0 := Lib.hid (box1 w (oA zeroA))
  replace hq := Lib.hid hq
  have hgap := Lib.hid hgap
  go_enter Tryz.func104, Tryz.ntmps104
  go_wp2
  go_loop [5, 6] (fun x5 x6 => ∃ i : Nat, i ≤ s.size ∧ x5 = .int .i64 (-1) ∧ x6 = .int .i64 i) (fun _ x6 => s.size - (intOf x6).toNat)
  case atStart => exact ⟨0, Nat.zero_le _, rfl, rfl⟩
  case round =>
    obtain ⟨i, hi, rfl, rfl⟩ := hrel
    by_cases hlt : i + 1 < s.size
    · have hd : decide ((i : Int) + 1 < s.size) = true := decide_eq_true (by omega)
      by_cases hc : s[i] = 58
      · have hc2 : ((s[i+1].toNat : Int) == 58) = false := by
          rw [beq58, decide_eq_false]
          intro e
          exact hgap.out i ⟨by rw [get_byte s i (by omega), hc], by rw [get_byte s (i+1) (by omega), e]⟩
        have hc1 : ((s[i].toNat : Int) == 58) = true := by rw [beq58, decide_eq_true hc]
        clear hc
        go_wp2
        refine ⟨⟨i + 1, by omega, rfl, by congr 1⟩, by simp [intOf]; omega⟩
      · have hc1 : ((s[i].toNat : Int) == 58) = false := by rw [beq58, decide_eq_false hc]
        clear hc
        go_wp2
        refine ⟨⟨i + 1, by omega, rfl, by congr 1⟩, by simp [intOf]; omega⟩
    · have hd : decide ((i : Int) + 1 < s.size) = false := decide_eq_false (by omega)
      have hmm : decide ((-1 : Int) < 0) = true := rfl
      rcases hb with rfl | ⟨rfl, hne⟩
      · go_wp2_with (first
          | (go_at_call 163; refine (hG _).mono ?_; rintro e w1 ⟨⟨v, rfl, hrow, low⟩, bel⟩; obtain ⟨A, c2, rfl, hc1, hc2⟩ := own_slice hrow; have hz1 := Lib.hid (Below.box hz0.out bel (by simp)))
          | (refine wpList_store_row rfl 42 (.tmp 2) (.tmp 48) rfl w.heap.size (nums .u8 zeroA).toArray rfl rfl 42 (nums .u8 zeroA).toArray hz1.out (info42 zeroA_ok) rfl (numsA_one _) ?_))
        have bel1 := bel0.trans (bel.mono bel0.size)
        refine bodyPost_ret (v := .tuple #[vA zeroA, .bool false]) ?_ rfl ⟨by unfold QuadR; rw [hq.out]; rfl, below_row bel1 (Nat.le_refl _) _⟩
        exact results_cell_tmp rfl _ _ rfl (BoxA.run (a := zeroA) (setRow_heap _ _ _ _ _ _ hz1.out) zeroA_ok) rfl
      · have hne2 : ((n : Int) == 8) = false := by simp; omega
        go_wp2_with (first
          | (go_at_call 163; refine (hG _).mono ?_; rintro e w1 ⟨⟨v, rfl, hrow, low⟩, bel⟩; obtain ⟨A, c2, rfl, hc1, hc2⟩ := own_slice hrow; have hz1 := Lib.hid (Below.box hz0.out bel (by simp)))
          | (refine wpList_store_row rfl 42 (.tmp 2) (.tmp 48) rfl w.heap.size (nums .u8 zeroA).toArray rfl rfl 42 (nums .u8 zeroA).toArray hz1.out (info42 zeroA_ok) rfl (numsA_one _) ?_))
        have bel1 := bel0.trans (bel.mono bel0.size)
        refine bodyPost_ret (v := .tuple #[vA zeroA, .bool false]) ?_ rfl ⟨by unfold QuadR; rw [hq.out]; rfl, below_row bel1 (Nat.le_refl _) _⟩
        exact results_cell_tmp rfl _ _ rfl (BoxA.run (a := zeroA) (setRow_heap _ _ _ _ _ _ hz1.out) zeroA_ok) rfl
end Go.Proofs.YtnljjlaececnkaaGreatDoor
/-
  The document's eight groups: what is laid. Condition: a text is no longer than memory has room for.
-/
namespace Go.Proofs.YtnljjlaececnkaaGreatDoor
open Go.RowKit
set_option linter.unusedVariables false
set_option linter.unusedSimpArgs false
theorem heap_alloc_keep (w : World) (o : Obj) {r : Nat} (h : r < w.heap.size) : (w.alloc o).heap[r]? = w.heap[r]? := by
  unfold World.alloc
  simp [Array.getElem?_push, Nat.ne_of_lt h]
set_option maxRecDepth 100000 in
set_option maxHeartbeats 1600000 in
theorem six_flat_yes {w : World} {s : ByteArray} (hs : s.size < 4294967281) (hgap : ∀ j, ¬ gapAt s j) {G : List Nat} {n : Nat} (hlt : ∀ u ∈ G, u < 65536) (hn : G.length = n) (h8 : n = 8) (hq : colS s = some (fb G)) (hG : ∀ W : World, Calls Tryz.prog 163 #[.string s] W fun e w' => (∃ v, e = .returned (.tuple #[v, .bool true]) ∧ w'.ownsRow 0 3 1 v n (nats G) ∧ Lo W.heap.size v) ∧ Below W.heap.size W w') : Calls Tryz.prog 104 #[.string s] w fun e w' => QuadR (colS s) e ∧ Below w.heap.size w w' := by
  have bel0 : Below w.heap.size w (w.alloc (oA zeroA)) := (Below.refl _ _).alloc (Nat.le_refl _) _
  have hz0 := Lib.hid (box1 w (oA zeroA))
  replace hq := Lib.hid hq
  have hgap := Lib.hid hgap
  have hlt_u := hlt
  clear hlt
  subst h8
  go_enter Tryz.func104, Tryz.ntmps104
  go_wp2
  go_loop [5, 6] (fun x5 x6 => ∃ i : Nat, i ≤ s.size ∧ x5 = .int .i64 (-1) ∧ x6 = .int .i64 i) (fun _ x6 => s.size - (intOf x6).toNat)
  case atStart => exact ⟨0, Nat.zero_le _, rfl, rfl⟩
  case round =>
    obtain ⟨i, hi, rfl, rfl⟩ := hrel
    by_cases hlt1 : i + 1 < s.size
    · have hd : decide ((i : Int) + 1 < s.size) = true := decide_eq_true (by omega)
      by_cases hc : s[i] = 58
      · have hc2 : ((s[i+1].toNat : Int) == 58) = false := by
          rw [beq58, decide_eq_false]
          intro e
          exact hgap.out i ⟨by rw [get_byte s i (by omega), hc], by rw [get_byte s (i+1) (by omega), e]⟩
        have hc1 : ((s[i].toNat : Int) == 58) = true := by rw [beq58, decide_eq_true hc]
        clear hc
        go_wp2
        refine ⟨⟨i + 1, by omega, rfl, by congr 1⟩, by simp [intOf]; omega⟩
      · have hc1 : ((s[i].toNat : Int) == 58) = false := by rw [beq58, decide_eq_false hc]
        clear hc
        go_wp2
        refine ⟨⟨i + 1, by omega, rfl, by congr 1⟩, by simp [intOf]; omega⟩
    · have hd : decide ((i : Int) + 1 < s.size) = false := decide_eq_false (by omega)
      have hmm : decide ((-1 : Int) < 0) = true := rfl
      go_wp2_with (go_at_call 163; refine (hG _).mono ?_; rintro e w1 ⟨⟨v, rfl, hrow, low⟩, bel⟩; obtain ⟨A, c2, rfl, hc1, hc2⟩ := own_slice hrow; obtain ⟨k, rfl, -, hk, hcell, hfr, -⟩ := own_at hrow (by decide); have hz1 := Lib.hid (Below.box hz0.out bel (by simp)); have hcell := Lib.hid hcell; have hfr := Lib.hid hfr; have hkl := low k rfl)
      have belw : Below w.heap.size w (w1.alloc (oA zeroA)) := (bel0.trans (bel.mono bel0.size)).alloc (Nat.le_trans bel0.size bel.size) _
      have hwl : w.heap.size + 1 ≤ w1.heap.size := by have := bel.size; simp at this; omega
      have hr0 := Lib.hid (box1 w1 (oA zeroA))
      have hk0 : (w1.alloc (oA zeroA)).heap[k]? = w1.heap[k]? := heap_alloc_keep w1 _ hk
      have hz2 : (w1.alloc (oA zeroA)).heap[w.heap.size]? = some (oA zeroA) := (heap_alloc_keep w1 _ (by omega)).trans hz1.out
      have hkw : k ≠ w.heap.size := fun e => by simp at hkl; omega
      go_loopw [14] (fun x14 wr => ∃ j : Nat, x14 = .int .i64 j ∧ j ≤ 8 ∧ Hid (wr.heap[w1.heap.size]? = some (oA (fbPart G j))) ∧ Hid (wr.heap[w.heap.size]? = some (oA zeroA)) ∧ Hid (wr.heap[k]? = w1.heap[k]?) ∧ Below w.heap.size w wr ∧ wr.heap.size = w1.heap.size + 1) (fun x14 wr => 8 - (intOf x14).toNat)
      case atStart => exact ⟨0, rfl, by omega, Lib.hid (by rw [fbPart_zero]; exact hr0.out), Lib.hid hz2, Lib.hid hk0, belw, by simp⟩
      case round =>
        obtain ⟨j, rfl, hj, hr, hz, hw, bel2, hsz⟩ := hrel
        by_cases hlt : j < 8
        · obtain ⟨u, hu⟩ : ∃ u, G[j]? = some u := ⟨G[j]'(by omega), List.getElem?_eq_getElem (by omega)⟩
          have hu2 := hlt_u u (List.mem_of_getElem? hu)
          have c0 : wr.cell? ⟨k, j, none⟩ = some (.int .i64 u) := (World.cell?_of_block (w := w1) hw.out).trans (hcell.out j _ (by unfold nats; rw [List.getElem?_map, hu]; rfl))
          have wr1 : IntKind.i64.wrap (2 * (j : Int)) = 2 * j := IntWalk.i64_in _ (by omega)
          have wr2 : IntKind.i64.wrap (2 * (j : Int) + 1) = 2 * j + 1 := IntWalk.i64_in _ (by omega)
          obtain ⟨a0, ha0⟩ : ∃ a0, wr.cell? ⟨w1.heap.size, 2 * j, none⟩ = some a0 := by
            obtain ⟨x, hx, -⟩ := isA_getD (fbPart_ok hn hlt_u hj) (j := 2 * j) (by omega)
            exact ⟨_, (row_cell hr.out).trans (by rw [List.getElem?_toArray]; exact nums_get hx)⟩
          obtain ⟨a1, ha1⟩ : ∃ a1, wr.cell? ⟨w1.heap.size, 2 * j + 1, none⟩ = some a1 := by
            obtain ⟨x, hx, -⟩ := isA_getD (fbPart_ok hn hlt_u hj) (j := 2 * j + 1) (by omega)
            exact ⟨_, (row_cell hr.out).trans (by rw [List.getElem?_toArray]; exact nums_get hx)⟩
          have f1 : wr.frozen? ⟨w1.heap.size, 2 * j, none⟩ = false := row_free hr.out
          have f2 : wr.frozen? ⟨w1.heap.size, 2 * j + 1, none⟩ = false := row_free hr.out
          have st : Hid (((fbPart G j).set (2 * j) ((u : Int) / 256)).set (2 * j + 1) ((u : Int) % 256) = fbPart G (j + 1)) := Lib.hid (by
            have e1 : (u : Int) / 256 = ((u / 256 : Nat) : Int) := by omega
            have e2 : (u : Int) % 256 = ((u % 256 : Nat) : Int) := by omega
            rw [e1, e2]; exact fbPart_set hn hlt hu)
          clear hu
          go_wp2
          have fr1 := Fr.setCell (S := fun b => b = w1.heap.size) (Fr.refl _ wr) (p := ⟨w1.heap.size, 2 * j, none⟩) (.inl rfl) (.int .u8 ((u : Int) / 256))
          have fr2 := Fr.setCell (S := fun b => b = w1.heap.size) fr1 (p := ⟨w1.heap.size, 2 * j + 1, none⟩) (.inl rfl) (.int .u8 ((u : Int) % 256))
          refine ⟨⟨j + 1, by congr 1, by omega, Lib.hid (row_set (row_set hr.out (i := 2 * j) (cs' := (nums .u8 ((fbPart G j).set (2 * j) ((u : Int) / 256))).toArray) (.int .u8 ((u : Int) / 256)) (by rw [List.setIfInBounds_toArray, nums_set])) (i := 2 * j + 1) (cs' := (nums .u8 (fbPart G (j + 1))).toArray) (.int .u8 ((u : Int) % 256)) (by rw [List.setIfInBounds_toArray, nums_set, st.out])), Lib.hid (fr2.obj hz.out (by omega)), Lib.hid ((fr2.block k (by omega) (by omega)).trans hw.out), bel2.trans (fr2.belowS (fun b hb => by omega) bel2.size), ?_⟩, ?_⟩
          · simp [World.setCell]; omega
          · simp [intOf]; omega
        · obtain rfl : j = 8 := by omega
          have ok := Lib.hid (fbPart_ok hn hlt_u (Nat.le_refl 8))
          have hall := Lib.hid (fbPart_all hn)
          go_wp2_with (first
            | (refine wpList_load_mid rfl 42 (.tmp 13) rfl w1.heap.size 0 rfl (nums .u8 (fbPart G 8)) _ (row_load hr.out) Tryz.underlying42 rfl (info42 ok.out) ?_)
            | (refine wpList_store_row rfl 42 (.tmp 2) (.tmp 118) rfl w.heap.size (nums .u8 (fbPart G 8)).toArray rfl rfl 42 (nums .u8 zeroA).toArray hz.out (info42 ok.out) (by rw [sizeA zeroA_ok, sizeA ok.out]) (numsA_one _) ?_))
          refine bodyPost_ret (v := .tuple #[vA (fbPart G 8), .bool true]) ?_ rfl ⟨by unfold QuadR; rw [hq.out, ← hall.out]; rfl, below_row bel2 (Nat.le_refl _) _⟩
          exact results_cell_tmp rfl _ _ rfl (BoxA.run (a := fbPart G 8) (setRow_heap _ _ _ _ _ _ hz.out) ok.out) rfl
end Go.Proofs.YtnljjlaececnkaaGreatDoor
/-
  The document's eight groups, a text with a gap, refused. Condition: a text is no longer than memory has room for.
-/
namespace Go.Proofs.YtnljjlaececnkaaGreatDoor
open Go.RowKit
set_option linter.unusedVariables false
set_option linter.unusedSimpArgs false
set_option maxRecDepth 100000 in
set_option maxHeartbeats 3200000 in
theorem six_gap_no {w : World} {s : ByteArray} (hs : s.size < 4294967281) {g : Nat} (hg : gapAt s g) (hgn : ∀ j, j < g → ¬ gapAt s j) (hq : colS s = none) {l r : ByteArray} (hel : s.extract 0 g = l) (her : s.extract (g + 2) s.size = r) {G H : List Nat} {n m : Nat} {b c : Bool} (hn : n ≤ 4294967281) (hm : m ≤ 4294967281)
    (hG : ∀ W : World, Calls Tryz.prog 163 #[.string l] W fun e w' => (∃ v, e = .returned (.tuple #[v, .bool b]) ∧ w'.ownsRow 0 3 1 v n (nats G) ∧ Lo W.heap.size v) ∧ Below W.heap.size W w')
    (hH : ∀ W : World, Calls Tryz.prog 163 #[.string r] W fun e w' => (∃ v, e = .returned (.tuple #[v, .bool c]) ∧ w'.ownsRow 0 3 1 v m (nats H) ∧ Lo W.heap.size v) ∧ Below W.heap.size W w')
    (hb : b = false ∨ b = true ∧ c = false ∨ b = true ∧ c = true ∧ 7 < n + m) : Calls Tryz.prog 104 #[.string s] w fun e w' => QuadR (colS s) e ∧ Below w.heap.size w w' := by
  have bel0 : Below w.heap.size w (w.alloc (oA zeroA)) := (Below.refl _ _).alloc (Nat.le_refl _) _
  have hz0 := Lib.hid (box1 w (oA zeroA))
  replace hq := Lib.hid hq
  have hgap := Lib.hid hgn
  have hgs := gap_lt hg
  have hg1 : ((s[g].toNat : Int) == 58) = true := by
    have := hg.1
    rw [get_byte s g (by omega)] at this
    rw [beq58, decide_eq_true (Option.some.inj this)]
  have hg2 : ((s[g+1].toNat : Int) == 58) = true := by
    have := hg.2
    rw [get_byte s (g+1) (by omega)] at this
    rw [beq58, decide_eq_true (Option.some.inj this)]
  clear hgn hg
  go_enter Tryz.func104, Tryz.ntmps104
  go_wp2
  go_loop [5, 6] (fun x5 x6 => ∃ i : Nat, i ≤ g ∧ x5 = .int .i64 (-1) ∧ x6 = .int .i64 i) (fun _ x6 => g - (intOf x6).toNat)
  case atStart => exact ⟨0, Nat.zero_le _, rfl, rfl⟩
  case round =>
    obtain ⟨i, hi, rfl, rfl⟩ := hrel
    have hd : decide ((i : Int) + 1 < s.size) = true := decide_eq_true (by omega)
    by_cases hlt : i < g
    · by_cases hc : s[i] = 58
      · have hc2 : ((s[i+1].toNat : Int) == 58) = false := by
          rw [beq58, decide_eq_false]
          intro e
          exact hgap.out i hlt ⟨by rw [get_byte s i (by omega), hc], by rw [get_byte s (i+1) (by omega), e]⟩
        have hc1 : ((s[i].toNat : Int) == 58) = true := by rw [beq58, decide_eq_true hc]
        clear hc
        go_wp2
        refine ⟨⟨i + 1, by omega, rfl, by congr 1⟩, by simp [intOf]; omega⟩
      · have hc1 : ((s[i].toNat : Int) == 58) = false := by rw [beq58, decide_eq_false hc]
        clear hc
        go_wp2
        refine ⟨⟨i + 1, by omega, rfl, by congr 1⟩, by simp [intOf]; omega⟩
    · obtain rfl : i = g := by omega
      have hmm : decide ((i : Int) < 0) = false := decide_eq_false (by omega)
      rcases hb with rfl | ⟨rfl, rfl⟩ | ⟨rfl, rfl, h7⟩
      case' inr.inr => have h7b : decide (7 < (n : Int) + m) = true := decide_eq_true (by omega)
      all_goals
        go_wp2_with (first
          | (go_at_call 163; with_reducible refine (hG _).mono ?_; rintro e w1 ⟨⟨v, rfl, hrow, low⟩, bel⟩; obtain ⟨A, c2, rfl, hc1, hc2⟩ := own_slice hrow; have hz1 := Lib.hid (Below.box hz0.out bel (by simp)); have bel1 := bel0.trans (bel.mono bel0.size))
          | (go_at_call 163; with_reducible refine (hH _).mono ?_; rintro e w2 ⟨⟨v2, rfl, hrow2, low2⟩, bel2⟩; obtain ⟨A2, c3, rfl, hd1, hd2⟩ := own_slice hrow2; have hz2 := Lib.hid (Below.box hz1.out bel2 (lt_of_obj hz1.out)); have bel3 := bel1.trans (bel2.mono bel1.size))
          | (refine wpList_store_row rfl 42 (.tmp 2) (.tmp 79) rfl w.heap.size (nums .u8 zeroA).toArray rfl rfl 42 (nums .u8 zeroA).toArray hz2.out (info42 zeroA_ok) rfl (numsA_one _) ?_))
        refine bodyPost_ret (v := .tuple #[vA zeroA, .bool false]) ?_ rfl ⟨by unfold QuadR; rw [hq.out]; rfl, below_row bel3 (Nat.le_refl _) _⟩
        exact results_cell_tmp rfl _ _ rfl (BoxA.run (a := zeroA) (setRow_heap _ _ _ _ _ _ hz2.out) zeroA_ok) rfl
end Go.Proofs.YtnljjlaececnkaaGreatDoor
/-
  The document's eight groups, a text with a gap, laid. Condition: a text is no longer than memory has room for.
-/
namespace Go.Proofs.YtnljjlaececnkaaGreatDoor
open Go.RowKit
set_option linter.unusedVariables false
set_option linter.unusedSimpArgs false
theorem nats_one (l : List Nat) : ∀ u ∈ nats l, u.oneCell' = true := by intro u hu; obtain ⟨x, _, rfl⟩ := List.mem_map.1 hu; rfl
set_option maxRecDepth 100000 in
set_option maxHeartbeats 3200000 in
theorem six_gap_yes {w : World} {s : ByteArray} (hs : s.size < 4294967281) {g : Nat} (hg : gapAt s g) (hgn : ∀ j, j < g → ¬ gapAt s j)  {l r : ByteArray} (hel : s.extract 0 g = l) (her : s.extract (g + 2) s.size = r) {G H Z : List Nat} {n m : Nat} (hnG : G.length = n) (hmH : H.length = m) (h7 : n + m ≤ 7) (hZ : Z = G ++ List.replicate (8 - n - m) 0 ++ H) (hlt_u : ∀ u ∈ Z, u < 65536) (hq : colS s = some (fb Z))
    (hG : ∀ W : World, Calls Tryz.prog 163 #[.string l] W fun e w' => (∃ v, e = .returned (.tuple #[v, .bool true]) ∧ w'.ownsRow 0 3 1 v n (nats G) ∧ Lo W.heap.size v) ∧ Below W.heap.size W w')
    (hH : ∀ W : World, Calls Tryz.prog 163 #[.string r] W fun e w' => (∃ v, e = .returned (.tuple #[v, .bool true]) ∧ w'.ownsRow 0 3 1 v m (nats H) ∧ Lo W.heap.size v) ∧ Below W.heap.size W w') : Calls Tryz.prog 104 #[.string s] w fun e w' => QuadR (colS s) e ∧ Below w.heap.size w w' := by
  have bel0 : Below w.heap.size w (w.alloc (oA zeroA)) := (Below.refl _ _).alloc (Nat.le_refl _) _
  have hz0 := Lib.hid (box1 w (oA zeroA))
  replace hq := Lib.hid hq
  have hn : Z.length = 8 := by rw [hZ]; simp [hnG, hmH]; omega
  have hZn : Hid (nats Z = nats (G ++ List.replicate (8 - m - n) 0) ++ nats H) := Lib.hid (by rw [hZ, show 8 - n - m = 8 - m - n by omega]; unfold nats; simp)
  replace hlt_u := Lib.hid hlt_u
  clear hZ
  have hgap := Lib.hid hgn
  have hgs := gap_lt hg
  have hg1 : ((s[g].toNat : Int) == 58) = true := by
    have := hg.1
    rw [get_byte s g (by omega)] at this
    rw [beq58, decide_eq_true (Option.some.inj this)]
  have hg2 : ((s[g+1].toNat : Int) == 58) = true := by
    have := hg.2
    rw [get_byte s (g+1) (by omega)] at this
    rw [beq58, decide_eq_true (Option.some.inj this)]
  clear hgn hg
  go_enter Tryz.func104, Tryz.ntmps104
  go_wp2
  go_loop [5, 6] (fun x5 x6 => ∃ i : Nat, i ≤ g ∧ x5 = .int .i64 (-1) ∧ x6 = .int .i64 i) (fun _ x6 => g - (intOf x6).toNat)
  case atStart => exact ⟨0, Nat.zero_le _, rfl, rfl⟩
  case round =>
    obtain ⟨i, hi, rfl, rfl⟩ := hrel
    have hd : decide ((i : Int) + 1 < s.size) = true := decide_eq_true (by omega)
    by_cases hlt : i < g
    · by_cases hc : s[i] = 58
      · have hc2 : ((s[i+1].toNat : Int) == 58) = false := by
          rw [beq58, decide_eq_false]
          intro e
          exact hgap.out i hlt ⟨by rw [get_byte s i (by omega), hc], by rw [get_byte s (i+1) (by omega), e]⟩
        have hc1 : ((s[i].toNat : Int) == 58) = true := by rw [beq58, decide_eq_true hc]
        clear hc
        go_wp2
        refine ⟨⟨i + 1, by omega, rfl, by congr 1⟩, by simp [intOf]; omega⟩
      · have hc1 : ((s[i].toNat : Int) == 58) = false := by rw [beq58, decide_eq_false hc]
        clear hc
        go_wp2
        refine ⟨⟨i + 1, by omega, rfl, by congr 1⟩, by simp [intOf]; omega⟩
    · obtain rfl : i = g := by omega
      have hmm : decide ((i : Int) < 0) = false := decide_eq_false (by omega)
      have h7b : decide (7 < (n : Int) + m) = false := decide_eq_false (by omega)
      go_wp2_with (first
        | (go_at_call 163; with_reducible refine (hG _).mono ?_; rintro e w1 ⟨⟨v, rfl, hrow, low⟩, bel⟩; obtain ⟨A, c2, rfl, hc1, hc2⟩ := own_slice hrow; have hz1 := Lib.hid (Below.box hz0.out bel (by simp)); have bel1 := bel0.trans (bel.mono bel0.size))
        | (go_at_call 163; with_reducible refine (hH _).mono ?_; rintro e w2 ⟨⟨v2, rfl, hrow2, low2⟩, bel2⟩; obtain ⟨A2, c3, rfl, hd1, hd2⟩ := own_slice hrow2; have hz2 := Lib.hid (Below.box hz1.out bel2 (lt_of_obj hz1.out)); have bel3 := bel1.trans (bel2.mono bel1.size); have hrow1 := own_below hrow bel2 (own_lt hrow))
        | (at_builtin; refine wpList_appR rfl (.tmp 80) (.tmp 81) 188 rfl Tryz.underlying188 Tryz.info3 rfl (by decide) (by decide) rfl (own_nil _ _ _) rfl (own_old hrow1) (nats_one _) (by omega) ?_; intro v3 w3 ho3 hn3 hf3))
      have lo3 : Lo w2.heap.size v3 := Lo.next (show Lo w2.heap.size (.slice none 0 0) from fun b h => by simp [Value.ownBlock] at h) hn3 (Nat.le_refl _)
      have bf3 : Below w2.heap.size w2 w3 := hf3.belowB (show Lo w2.heap.size (.slice none 0 0) from fun b h => by simp [Value.ownBlock] at h) (Nat.le_refl _)
      rw [Nat.zero_add, List.nil_append] at ho3
      obtain ⟨z8, hz8⟩ : ∃ z8, z8 = 8 - m - n := ⟨_, rfl⟩
      rw [← hz8] at hZn
      go_loopw [4] (fun x4 wr => ∃ q k : Nat, q = n + k ∧ q + m ≤ 8 ∧ wr.ownsRow 0 3 1 x4 q (nats (G ++ List.replicate k 0)) ∧ Lo w2.heap.size x4 ∧ Below w2.heap.size w2 wr) (fun x4 wr => 8 - (match x4 with | .slice _ l _ => l | _ => 0))
      case atStart => exact ⟨n, 0, rfl, by omega, by simpa using ho3, lo3, bf3⟩
      case round =>
        obtain ⟨q, kk, hqk, hq8, ho, lo, bf⟩ := hrel
        obtain ⟨A4, c4, rfl, hf1, hf2⟩ := own_slice ho
        by_cases hlt8 : q + m < 8
        · have hd8 : decide ((q : Int) + m < 8) = true := decide_eq_true (by omega)
          have hnx : Hid (nats (G ++ List.replicate (kk + 1) 0) = nats (G ++ List.replicate kk 0) ++ [.int .i64 0]) := Lib.hid (by
            rw [List.replicate_succ', ← List.append_assoc]; unfold nats; rw [List.map_append]; rfl)
          go_wp2_with (at_builtin; refine wpList_app1 rfl (.tmp 89) (.tmp 90) 188 rfl Tryz.underlying188 Tryz.info3 rfl (by decide) (by decide) [.int .i64 0] rfl (by intro z hz; simp at hz; subst hz; rfl) rfl ho rfl (by omega) ?_; intro v' w4 ho4 hn4 hf4)
          have lo4 := lo.next hn4 bf.size
          obtain ⟨A5, c5, rfl, hf3, hf5⟩ := own_slice ho4
          refine ⟨⟨q + 1, kk + 1, by omega, by omega, by rw [hnx.out]; exact ho4, lo4, bf.trans (hf4.belowB lo bf.size)⟩, by simp; omega⟩
        · have hd8 : decide ((q : Int) + m < 8) = false := decide_eq_false (by omega)
          obtain rfl : kk = z8 := by omega
          have h8q : q + m = 8 := by omega
          have belr : Below w.heap.size w wr := bel3.trans (bf.mono bel3.size)
          have hzr := Lib.hid (Below.box hz2.out bf (lt_of_obj hz2.out))
          have hwr : w.heap.size < wr.heap.size := lt_of_obj hzr.out
          have hw2 : w.heap.size < w2.heap.size := lt_of_obj hz2.out
          go_wp2_with (at_builtin; refine wpList_appR rfl (.tmp 92) (.tmp 93) 188 rfl Tryz.underlying188 Tryz.info3 rfl (by decide) (by decide) rfl ho rfl (own_old (own_below hrow2 bf (own_lt hrow2))) (nats_one _) (by omega) ?_; intro v' w5 ho5 hn5 hf5; rw [← hZn.out, h8q] at ho5; have lo5 := lo.next hn5 bf.size; have bel5 : Below w2.heap.size w2 w5 := bf.trans (hf5.belowB lo bf.size); have hz5 := Lib.hid (Below.box hz2.out bel5 (lt_of_obj hz2.out)); have belw5 : Below w.heap.size w w5 := bel3.trans (bel5.mono bel3.size); obtain ⟨A5, c5, rfl, hf7, hf6⟩ := own_slice ho5; obtain ⟨k, rfl, -, hk, hcell, hfr, -⟩ := own_at ho5 (by omega); have hcell := Lib.hid hcell; have hfr := Lib.hid hfr; have hkl := lo5 k rfl)
          have belw : Below w.heap.size w (w5.alloc (oA zeroA)) := belw5.alloc belw5.size _
          have hwl : w.heap.size + 1 ≤ w5.heap.size := lt_of_obj hz5.out
          have hr0 := Lib.hid (box1 w5 (oA zeroA))
          have hk0 : (w5.alloc (oA zeroA)).heap[k]? = w5.heap[k]? := heap_alloc_keep w5 _ hk
          have hzb : (w5.alloc (oA zeroA)).heap[w.heap.size]? = some (oA zeroA) := (heap_alloc_keep w5 _ (by omega)).trans hz5.out
          have hkw : k ≠ w.heap.size := fun e => by omega
          clear ho hq8 hqk hf1 hf2 hrow1 hrow2 hrow ho3 hG hH
          go_loopw [14] (fun x14 wr => ∃ j : Nat, x14 = .int .i64 j ∧ j ≤ 8 ∧ Hid (wr.heap[w5.heap.size]? = some (oA (fbPart Z j))) ∧ Hid (wr.heap[w.heap.size]? = some (oA zeroA)) ∧ Hid (wr.heap[k]? = w5.heap[k]?) ∧ Below w.heap.size w wr ∧ wr.heap.size = w5.heap.size + 1) (fun x14 wr => 8 - (intOf x14).toNat)
          case atStart => exact ⟨0, rfl, by omega, Lib.hid (by rw [fbPart_zero]; exact hr0.out), Lib.hid hzb, Lib.hid hk0, belw, by simp⟩
          case round =>
            obtain ⟨j, rfl, hj, hr, hz, hw, bel2, hsz⟩ := hrel
            by_cases hlt : j < 8
            · obtain ⟨u, hu⟩ : ∃ u, Z[j]? = some u := ⟨Z[j]'(by omega), List.getElem?_eq_getElem (by omega)⟩
              have hu2 := hlt_u.out u (List.mem_of_getElem? hu)
              have c0 : wr.cell? ⟨k, j, none⟩ = some (.int .i64 u) := (World.cell?_of_block (w := w5) hw.out).trans (hcell.out j _ (by unfold nats; rw [List.getElem?_map, hu]; rfl))
              have wr1 : IntKind.i64.wrap (2 * (j : Int)) = 2 * j := IntWalk.i64_in _ (by omega)
              have wr2 : IntKind.i64.wrap (2 * (j : Int) + 1) = 2 * j + 1 := IntWalk.i64_in _ (by omega)
              obtain ⟨a0, ha0⟩ : ∃ a0, wr.cell? ⟨w5.heap.size, 2 * j, none⟩ = some a0 := by
                obtain ⟨x, hx, -⟩ := isA_getD (fbPart_ok hn hlt_u.out hj) (j := 2 * j) (by omega)
                exact ⟨_, (row_cell hr.out).trans (by rw [List.getElem?_toArray]; exact nums_get hx)⟩
              obtain ⟨a1, ha1⟩ : ∃ a1, wr.cell? ⟨w5.heap.size, 2 * j + 1, none⟩ = some a1 := by
                obtain ⟨x, hx, -⟩ := isA_getD (fbPart_ok hn hlt_u.out hj) (j := 2 * j + 1) (by omega)
                exact ⟨_, (row_cell hr.out).trans (by rw [List.getElem?_toArray]; exact nums_get hx)⟩
              have f1 : wr.frozen? ⟨w5.heap.size, 2 * j, none⟩ = false := row_free hr.out
              have f2 : wr.frozen? ⟨w5.heap.size, 2 * j + 1, none⟩ = false := row_free hr.out
              have st : Hid (((fbPart Z j).set (2 * j) ((u : Int) / 256)).set (2 * j + 1) ((u : Int) % 256) = fbPart Z (j + 1)) := Lib.hid (by
                have e1 : (u : Int) / 256 = ((u / 256 : Nat) : Int) := by omega
                have e2 : (u : Int) % 256 = ((u % 256 : Nat) : Int) := by omega
                rw [e1, e2]; exact fbPart_set hn hlt hu)
              clear hu
              go_wp2
              have fr1 := Fr.setCell (S := fun b => b = w5.heap.size) (Fr.refl _ wr) (p := ⟨w5.heap.size, 2 * j, none⟩) (.inl rfl) (.int .u8 ((u : Int) / 256))
              have fr2 := Fr.setCell (S := fun b => b = w5.heap.size) fr1 (p := ⟨w5.heap.size, 2 * j + 1, none⟩) (.inl rfl) (.int .u8 ((u : Int) % 256))
              refine ⟨⟨j + 1, by congr 1, by omega, Lib.hid (row_set (row_set hr.out (i := 2 * j) (cs' := (nums .u8 ((fbPart Z j).set (2 * j) ((u : Int) / 256))).toArray) (.int .u8 ((u : Int) / 256)) (by rw [List.setIfInBounds_toArray, nums_set])) (i := 2 * j + 1) (cs' := (nums .u8 (fbPart Z (j + 1))).toArray) (.int .u8 ((u : Int) % 256)) (by rw [List.setIfInBounds_toArray, nums_set, st.out])), Lib.hid (fr2.obj hz.out (by omega)), Lib.hid ((fr2.block k (by omega) (by omega)).trans hw.out), bel2.trans (fr2.belowS (fun b hb => by omega) bel2.size), ?_⟩, ?_⟩
              · simp [World.setCell]; omega
              · simp [intOf]; omega
            · obtain rfl : j = 8 := by omega
              have ok := Lib.hid (fbPart_ok hn hlt_u.out (Nat.le_refl 8))
              have hall := Lib.hid (fbPart_all hn)
              go_wp2_with (first
                | (refine wpList_load_mid rfl 42 (.tmp 13) rfl w5.heap.size 0 rfl (nums .u8 (fbPart Z 8)) _ (row_load hr.out) Tryz.underlying42 rfl (info42 ok.out) ?_)
                | (refine wpList_store_row rfl 42 (.tmp 2) (.tmp 118) rfl w.heap.size (nums .u8 (fbPart Z 8)).toArray rfl rfl 42 (nums .u8 zeroA).toArray hz.out (info42 ok.out) (by rw [sizeA zeroA_ok, sizeA ok.out]) (numsA_one _) ?_))
              refine bodyPost_ret (v := .tuple #[vA (fbPart Z 8), .bool true]) ?_ rfl ⟨by unfold QuadR; rw [hq.out, ← hall.out]; rfl, below_row bel2 (Nat.le_refl _) _⟩
              exact results_cell_tmp rfl _ _ rfl (BoxA.run (a := fbPart Z 8) (setRow_heap _ _ _ _ _ _ hz.out) ok.out) rfl
end Go.Proofs.YtnljjlaececnkaaGreatDoor
/-
  The document's eight groups of any text. Condition: a text is no longer than memory has room for.
-/
namespace Go.Proofs.YtnljjlaececnkaaGreatDoor
open Go.RowKit
set_option linter.unusedVariables false
set_option linter.unusedSimpArgs false
theorem groups_or {s : ByteArray} (hs : s.size < 4294967281) : ∃ (n : Nat) (b : Bool) (G : List Nat), n ≤ 4294967281 ∧ ∀ W : World, Calls Tryz.prog 163 #[.string s] W fun e w' => (∃ v, e = .returned (.tuple #[v, .bool b]) ∧ w'.ownsRow 0 3 1 v n (nats G) ∧ Lo W.heap.size v) ∧ Below W.heap.size W w' := by
  cases h : grpN s with
  | none => exact ⟨0, false, [], by omega, fun W => groups_none hs h⟩
  | some G => exact ⟨G.length, true, G, by have := grpN_len h; omega, fun W => groups_call hs h rfl⟩
/-- six. -/
theorem six_any {w : World} {s : ByteArray} (hs : s.size < 4294967281) : Calls Tryz.prog 104 #[.string s] w fun e w' => QuadR (colS s) e ∧ Below w.heap.size w w' := by
  rcases gap_or s with h | ⟨g, hg, hgn⟩
  · obtain ⟨c1, c2⟩ := col_flat h
    cases hG : grpN s with
    | none => exact six_flat_no hs h (c1 hG) (n := 0) (G := []) (b := false) (fun W => groups_none hs hG) (.inl rfl)
    | some G =>
      by_cases h8 : G.length = 8
      · exact six_flat_yes hs h (grpN_lt hG) rfl h8 ((c2 G hG).2 h8) (fun W => groups_call hs hG rfl)
      · exact six_flat_no hs h ((c2 G hG).1 h8) (fun W => groups_call hs hG rfl) (.inr ⟨rfl, h8⟩)
  · have gl := gap_lt hg
    have hl : (s.extract 0 g).data.toList = s.data.toList.take g := by rw [ext_list]; simp
    have hr : (s.extract (g + 2) s.size).data.toList = s.data.toList.drop (g + 2) := by
      rw [ext_list, List.take_of_length_le]; rw [List.length_drop, len_data]; exact Nat.le_refl _
    obtain ⟨c1, c2⟩ := col_gapped hg hgn hl hr
    have sl : (s.extract 0 g).size < 4294967281 := by rw [ByteArray.size_extract]; omega
    have sr : (s.extract (g + 2) s.size).size < 4294967281 := by rw [ByteArray.size_extract]; omega
    cases hG : grpN (s.extract 0 g) with
    | none =>
      obtain ⟨m, c, H, hm, hH⟩ := groups_or sr
      exact six_gap_no hs hg hgn (c1 (.inl hG)) rfl rfl (n := 0) (G := []) (by omega) hm (fun W => groups_none sl hG) hH (.inl rfl)
    | some G =>
      have g1 := grpN_len hG
      cases hH : grpN (s.extract (g + 2) s.size) with
      | none => exact six_gap_no hs hg hgn (c1 (.inr hH)) rfl rfl (m := 0) (H := []) (n := G.length) (by omega) (by omega) (fun W => groups_call sl hG rfl) (fun W => groups_none sr hH) (.inr (.inl ⟨rfl, rfl⟩))
      | some H =>
        have g2 := grpN_len hH
        obtain ⟨d1, d2⟩ := c2 G H hG hH
        by_cases h7 : 7 < G.length + H.length
        · exact six_gap_no hs hg hgn (d1 h7) rfl rfl (by omega) (by omega) (fun W => groups_call sl hG rfl) (fun W => groups_call sr hH rfl) (.inr (.inr ⟨rfl, rfl, h7⟩))
        · refine six_gap_yes hs hg hgn rfl rfl rfl rfl (by omega) rfl (fun u hu => ?_) (d2 (by omega)) (fun W => groups_call sl hG rfl) (fun W => groups_call sr hH rfl)
          rcases List.mem_append.1 hu with hu | hu
          · rcases List.mem_append.1 hu with hu | hu
            · exact grpN_lt hG u hu
            · rw [(List.mem_replicate.1 hu).2]; decide
          · exact grpN_lt hH u hu
end Go.Proofs.YtnljjlaececnkaaGreatDoor
