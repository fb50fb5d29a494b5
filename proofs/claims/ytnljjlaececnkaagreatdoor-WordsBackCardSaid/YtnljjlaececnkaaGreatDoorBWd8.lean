/-
  Merged texts (GE, FF, GB, EN, JF, JG), part 8 of 8. Conditions: each part's own, told at its head.
-/
import Derived.Test.YtnljjlaececnkaaGreatDoorBWd1
import Derived.Test.YtnljjlaececnkaaGreatDoorBWd2
import Derived.Test.YtnljjlaececnkaaGreatDoorBWd3
import Derived.Test.YtnljjlaececnkaaGreatDoorBWd4
import Derived.Test.YtnljjlaececnkaaGreatDoorBWd5
import Derived.Test.YtnljjlaececnkaaGreatDoorBWd6
import Derived.Test.YtnljjlaececnkaaGreatDoorBWd7
import Derived.Test.YtnljjlaececnkaaGreatDoorRows
import Derived.Lib.LaidTab
import Derived.Stop.LaidErr
import Derived.Shelf.Vars
import Derived.MakeChecks
import Derived.JoinedOf
import Derived.KernelRfl
import Derived.SevenTiedAt
/-
  Appended texts; how many words a line may have. No condition.
-/
namespace Go.Proofs.YtnljjlaececnkaaGreatDoor
open Go.RowKit
set_option linter.unusedVariables false
set_option linter.unusedSimpArgs false
theorem cat_list (a b : ByteArray) : (a ++ b).data.toList = a.data.toList ++ b.data.toList := by
  rw [ByteArray.data_append]; simp
theorem cat_size (a b : ByteArray) : (a ++ b).size = a.size + b.size := by
  rw [← len_data, ← len_data, ← len_data, cat_list, List.length_append]
theorem WR_len {l : List UInt8} {acc : List ByteArray} {R : List ByteArray × Int} (h : WR l acc R) : R.1.length ≤ acc.length + l.length := by
  induction h with
  | nil acc => exact Nat.le_refl _
  | bad c r acc hm => exact Nat.zero_le _
  | sp r acc R k ih => exact Nat.le_trans ih (by simp)
  | com r r' acc R h k ih =>
    have := runS_lt (st := -1) (c := 35) (r := r) (by decide) (by decide)
    rw [h] at this
    refine Nat.le_trans ih ?_
    simp at this ⊢; omega
  | comE r r' acc e h he => exact Nat.zero_le _
  | quo r r' acc x R h k ih =>
    have := quotS_le r.length r [] (Nat.le_refl _) (by rw [h])
    rw [h] at this
    refine Nat.le_trans ih ?_
    simp at this ⊢; omega
  | quoE r r' acc x e h he => exact Nat.zero_le _
  | bare c r r' acc R hm h1 h2 h3 h k ih =>
    have := runS_lt (st := 32) (c := c) (r := r) hm (fun e => h1 (UInt8.toNat_inj.1 (Int.ofNat_inj.1 e)))
    rw [h] at this
    refine Nat.le_trans ih ?_
    simp at this ⊢; omega
  | bareE c r r' acc e hm h1 h2 h3 h he => exact Nat.zero_le _
theorem WSpec_len {s : ByteArray} {R : List ByteArray × Int} (h : WSpec s R) : R.1.length ≤ 1024 := by
  unfold WSpec at h
  split at h
  · subst h; exact Nat.zero_le _
  · have := WR_len h
    rw [len_data] at this
    simp at this; omega
theorem words_fun : ∃ f : ByteArray → List ByteArray × Int, ∀ s, WSpec s (f s) := ⟨fun s => Classical.choose (WSpec_total s), fun s => Classical.choose_spec (WSpec_total s)⟩
end Go.Proofs.YtnljjlaececnkaaGreatDoor
/-
  The document's Words. No condition but the program's bound.
-/
namespace Go.Proofs.YtnljjlaececnkaaGreatDoor
open Go.RowKit
set_option linter.unusedVariables false
set_option linter.unusedSimpArgs false
set_option maxRecDepth 100000 in
set_option maxHeartbeats 12800000 in
theorem rwords_any {w : World} {s : ByteArray} {R : List ByteArray × Int} (hs : s.size < 4294967281) (hR : WSpec s R) : Calls Tryz.prog 24 #[.string s] w fun e' w' => ∃ v, e' = .returned (.tuple #[v, .int .i64 R.2]) ∧ w'.ownsRow 0 9 1 v R.1.length (strs R.1) ∧ Lo w.heap.size v ∧ Below w.heap.size w w' := by
  unfold WSpec at hR
  by_cases hlong : 1024 < s.size
  · rw [if_pos hlong] at hR
    subst hR
    have hd : decide ((1024 : Int) < s.size) = true := decide_eq_true (by omega)
    go_enter Tryz.func24, Tryz.ntmps24
    go_wp2
    go_ret2
    exact ⟨.slice none 0 0, rfl, own_nil _ _ _, Lo.nil _, Below.refl _ _⟩
  · rw [if_neg hlong] at hR
    have hd : decide ((1024 : Int) < s.size) = false := decide_eq_false (by omega)
    have HR := Lib.hid hR
    clear hR
    go_enter Tryz.func24, Tryz.ntmps24
    go_wp2
    go_loopw [4, 5] (fun x4 x5 wr => ∃ (i : Nat) (acc : List ByteArray), i ≤ s.size ∧ acc.length ≤ i ∧ x5 = .int .i64 i ∧ Hid (WR (s.data.toList.drop i) acc R) ∧ Hid (wr.ownsRow 0 9 1 x4 acc.length (strs acc)) ∧ Lo w.heap.size x4 ∧ Below w.heap.size w wr) (fun x4 x5 wr => s.size - (intOf x5).toNat)
    case atStart => exact ⟨0, [], Nat.zero_le _, Nat.le_refl _, rfl, Lib.hid (by simpa using HR.out), Lib.hid (by simpa [strs] using own_nil _ _ _), Lo.nil _, Below.refl _ _⟩
    case round =>
      obtain ⟨i, acc, h1, h2, rfl, hw, ho, lo, bel⟩ := hrel
      obtain ⟨l, hl⟩ : ∃ l, s.data.toList.drop i = l := ⟨_, rfl⟩
      rw [hl] at hw
      have hw2 := hw.out
      clear hw
      cases hw2 with
      | nil =>
        obtain rfl := drop_nil h1 hl
        clear hl
        go_wp2
        go_ret2
        exact ⟨_, rfl, ho.out, lo, bel⟩
      | bad c r acc hm =>
        obtain ⟨hlt, hc, hd2⟩ := drop_cons hl
        subst hc
        have k1 := rmay_num (c := s[i]) rfl hm
        clear hl hd2
        go_wp2_with (go_at_call 97; with_reducible refine (k1 _).mono ?_; rintro e' w' ⟨rfl, rfl⟩)
        go_ret2
        exact ⟨.slice none 0 0, rfl, own_nil _ _ _, Lo.nil _, bel⟩
      | sp r acc R k =>
        obtain ⟨hlt, hc, hd2⟩ := drop_cons hl
        have hv : s[i].toNat = 32 := by rw [hc]; rfl
        have k1 := rmay_num (n := 32) (c := s[i]) (b := true) (by rw [hv]; rfl) (by rw [hc]; decide)
        have hw1 : IntKind.i64.wrap ((i : Int) + 1) = ((i + 1 : Nat) : Int) := (IntWalk.i64_in _ (by omega)).trans (by omega)
        have hlr : r.length = s.size - i - 1 := by have := congrArg List.length hl; rw [List.length_drop, len_data] at this; (try simp at this); omega
        have hk := Lib.hid k
        clear k hl
        go_wp2_with (go_at_call 97; with_reducible refine (k1 _).mono ?_; rintro e' w' ⟨rfl, rfl⟩)
        refine ⟨⟨i + 1, acc, by omega, by omega, by congr 1, Lib.hid (by rw [hd2]; exact hk.out), ho, lo, bel⟩, by simp [intOf]; omega⟩
      | comE r r' acc e h he =>
        obtain ⟨hlt, hc, hd2⟩ := drop_cons hl
        have hv : s[i].toNat = 35 := by rw [hc]; rfl
        have k1 := rmay_num (n := 35) (c := s[i]) (b := true) (by rw [hv]; rfl) (by rw [hc]; decide)
        have hw1 : IntKind.i64.wrap ((i : Int) + 1) = ((i + 1 : Nat) : Int) := (IntWalk.i64_in _ (by omega)).trans (by omega)
        have hlr : r.length = s.size - i - 1 := by have := congrArg List.length hl; rw [List.length_drop, len_data] at this; (try simp at this); omega
        have h0 : Hid (runS (-1) (s.data.toList.drop i) = (r', e)) := Lib.hid (by rw [hl]; exact h)
        clear hl h hd2
        go_wp2_with (go_at_call 97; with_reducible refine (k1 _).mono ?_; rintro e' w' ⟨rfl, rfl⟩)
        go_loop [5] (fun x5 => ∃ j : Nat, i ≤ j ∧ j ≤ s.size ∧ x5 = .int .i64 j ∧ Hid (runS (-1) (s.data.toList.drop j) = (r', e)) ∧ (j = i → i < s.size)) (fun x5 => s.size - (intOf x5).toNat)
        case atStart => exact ⟨i, Nat.le_refl _, h1, rfl, h0, fun _ => hlt⟩
        case round =>
          obtain ⟨j, hj1, hj2, rfl, hj, hji⟩ := hrel
          obtain ⟨l2, hl2⟩ : ∃ l2, s.data.toList.drop j = l2 := ⟨_, rfl⟩
          rw [hl2] at hj
          cases l2 with
          | nil =>
            obtain rfl := drop_nil hj2 hl2
            exact absurd (congrArg Prod.snd hj.out).symm he
          | cons c2 r2 =>
            obtain ⟨hlt2, hc2, hd3⟩ := drop_cons hl2
            subst hc2
            by_cases hm2 : mayB s[j] = false
            · have k2 := rmay_num (c := s[j]) rfl hm2
              have hq := hj.out
              unfold runS at hq
              rw [if_pos hm2] at hq
              have he2 : (81 : Int) = e := congrArg Prod.snd hq
              subst he2
              clear hq hj hl2 hd3
              go_wp2_with (go_at_call 97; with_reducible refine (k2 _).mono ?_; rintro e' w' ⟨rfl, rfl⟩)
              go_ret2
              exact ⟨.slice none 0 0, rfl, own_nil _ _ _, Lo.nil _, bel⟩
            · have hm3 : mayB s[j] = true := by simpa using hm2
              have k2 := rmay_num (c := s[j]) rfl hm3
              have hw3 : IntKind.i64.wrap ((j : Int) + 1) = ((j + 1 : Nat) : Int) := (IntWalk.i64_in _ (by omega)).trans (by omega)
              have hnx : Hid (runS (-1) (s.data.toList.drop (j + 1)) = (r', e)) := Lib.hid (by rw [hd3, ← hj.out]; conv => rhs; unfold runS; rw [if_neg hm2, if_neg (by omega)])
              clear hj hl2 hd3
              go_wp2_with (go_at_call 97; with_reducible refine (k2 _).mono ?_; rintro e' w' ⟨rfl, rfl⟩)
              refine ⟨⟨j + 1, by omega, by omega, by congr 1, hnx, fun _ => hlt⟩, by simp [intOf]; omega⟩
      | com r r' acc R h k =>
        obtain ⟨hlt, hc, hd2⟩ := drop_cons hl
        have hv : s[i].toNat = 35 := by rw [hc]; rfl
        have k1 := rmay_num (n := 35) (c := s[i]) (b := true) (by rw [hv]; rfl) (by rw [hc]; decide)
        have hw1 : IntKind.i64.wrap ((i : Int) + 1) = ((i + 1 : Nat) : Int) := (IntWalk.i64_in _ (by omega)).trans (by omega)
        have hlr : r.length = s.size - i - 1 := by have := congrArg List.length hl; rw [List.length_drop, len_data] at this; (try simp at this); omega
        have h0 : Hid (runS (-1) (s.data.toList.drop i) = (r', 0)) := Lib.hid (by rw [hl]; exact h)
        have hk := Lib.hid k
        clear k
        clear hl h hd2
        go_wp2_with (go_at_call 97; with_reducible refine (k1 _).mono ?_; rintro e' w' ⟨rfl, rfl⟩)
        go_loop [5] (fun x5 => ∃ j : Nat, i ≤ j ∧ j ≤ s.size ∧ x5 = .int .i64 j ∧ Hid (runS (-1) (s.data.toList.drop j) = (r', 0)) ∧ (j = i → i < s.size)) (fun x5 => s.size - (intOf x5).toNat)
        case atStart => exact ⟨i, Nat.le_refl _, h1, rfl, h0, fun _ => hlt⟩
        case round =>
          obtain ⟨j, hj1, hj2, rfl, hj, hji⟩ := hrel
          obtain ⟨l2, hl2⟩ : ∃ l2, s.data.toList.drop j = l2 := ⟨_, rfl⟩
          rw [hl2] at hj
          cases l2 with
          | nil =>
            obtain rfl := drop_nil hj2 hl2
            have hr' : r' = [] := (congrArg Prod.fst hj.out).symm
            subst hr'
            have his : i < s.size := hlt
            have hl2 := Lib.hid hl2
            clear hj hji
            go_wp2
            refine ⟨⟨s.size, acc, Nat.le_refl _, by omega, rfl, Lib.hid (by rw [hl2.out]; exact hk.out), ho, lo, bel⟩, by simp [intOf]; omega⟩
          | cons c2 r2 =>
            obtain ⟨hlt2, hc2, hd3⟩ := drop_cons hl2
            subst hc2
            by_cases hm2 : mayB s[j] = false
            · have k2 := rmay_num (c := s[j]) rfl hm2
              have hq := hj.out
              unfold runS at hq
              rw [if_pos hm2] at hq
              exact absurd (congrArg Prod.snd hq) (by simp)
            · have hm3 : mayB s[j] = true := by simpa using hm2
              have k2 := rmay_num (c := s[j]) rfl hm3
              have hw3 : IntKind.i64.wrap ((j : Int) + 1) = ((j + 1 : Nat) : Int) := (IntWalk.i64_in _ (by omega)).trans (by omega)
              have hnx : Hid (runS (-1) (s.data.toList.drop (j + 1)) = (r', 0)) := Lib.hid (by rw [hd3, ← hj.out]; conv => rhs; unfold runS; rw [if_neg hm2, if_neg (by omega)])
              clear hj hl2 hd3
              go_wp2_with (go_at_call 97; with_reducible refine (k2 _).mono ?_; rintro e' w' ⟨rfl, rfl⟩)
              refine ⟨⟨j + 1, by omega, by omega, by congr 1, hnx, fun _ => hlt⟩, by simp [intOf]; omega⟩
      | quoE r r' acc x e h he =>
        obtain ⟨hlt, hc, hd2⟩ := drop_cons hl
        have hv : s[i].toNat = 34 := by rw [hc]; rfl
        have k1 := rmay_num (n := 34) (c := s[i]) (b := true) (by rw [hv]; rfl) (by rw [hc]; decide)
        have hw1 : IntKind.i64.wrap ((i : Int) + 1) = ((i + 1 : Nat) : Int) := (IntWalk.i64_in _ (by omega)).trans (by omega)
        have hlr : r.length = s.size - i - 1 := by have := congrArg List.length hl; rw [List.length_drop, len_data] at this; (try simp at this); omega
        have hx : (s.extract i s.size).data.toList = 34 :: r := by rw [Lib.extract_to_end]; exact hl
        have hxs : (s.extract i s.size).size = r.length + 1 := by rw [← len_data, hx]; rfl
        have hcall := fun W => rquoted_any (w := W) (t := s.extract i s.size) (r0 := r) (R := (x, r', e)) (by omega) (by rw [hx]; rfl) (by omega) h
        have hne : (e != 0) = true := by simpa using he
        replace he := Lib.hid he
        have hl := Lib.hid hl
        have hx := Lib.hid hx
        clear h hd2
        go_wp2_with (first | (go_at_call 97; with_reducible refine (k1 _).mono ?_; rintro e' w' ⟨rfl, rfl⟩) | (go_at_call 98; go_loud (refine (hcall _).mono ?_; clear hcall; rintro e' w' ⟨y, n, rfl, hyn, rfl⟩; clear hyn)))
        go_ret2
        exact ⟨.slice none 0 0, rfl, own_nil _ _ _, Lo.nil _, bel⟩
      | quo r r' acc x R h k =>
        obtain ⟨hlt, hc, hd2⟩ := drop_cons hl
        have hv : s[i].toNat = 34 := by rw [hc]; rfl
        have k1 := rmay_num (n := 34) (c := s[i]) (b := true) (by rw [hv]; rfl) (by rw [hc]; decide)
        have hw1 : IntKind.i64.wrap ((i : Int) + 1) = ((i + 1 : Nat) : Int) := (IntWalk.i64_in _ (by omega)).trans (by omega)
        have hlr : r.length = s.size - i - 1 := by have := congrArg List.length hl; rw [List.length_drop, len_data] at this; (try simp at this); omega
        have hx : (s.extract i s.size).data.toList = 34 :: r := by rw [Lib.extract_to_end]; exact hl
        have hxs : (s.extract i s.size).size = r.length + 1 := by rw [← len_data, hx]; rfl
        have hcall := fun W => rquoted_any (w := W) (t := s.extract i s.size) (r0 := r) (R := (x, r', 0)) (by omega) (by rw [hx]; rfl) (by omega) h
        have hk := Lib.hid k
        clear k
        have hl := Lib.hid hl
        have hx := Lib.hid hx
        clear h hd2
        go_wp2_with (first | (go_at_call 97; with_reducible refine (k1 _).mono ?_; rintro e' w' ⟨rfl, rfl⟩) | (go_at_call 98; go_loud (refine (hcall _).mono ?_; clear hcall; rintro e' w' ⟨y, n, rfl, hyn, rfl⟩; obtain ⟨rfl, kk, rfl, hk1, hk2, hk3⟩ := hyn (by simp); clear hyn; have hk3 := Lib.hid hk3; have hw9 : IntKind.i64.wrap ((i : Int) + kk) = ((i + kk : Nat) : Int) := (IntWalk.i64_in _ (by omega)).trans (by omega))) | (at_builtin; go_loud (refine wpList_app1 rfl (.tmp 87) (.tmp 89) 23 rfl Tryz.underlying23 Tryz.info9 rfl (by decide) (by decide) [.string ⟨x.toArray⟩] rfl (by intro z hz; simp at hz; subst hz; rfl) rfl ho.out rfl (show (acc.length + 1) * 16 ≤ 140737488355328 by omega) ?_; intro v' w6 ho6 hn6 hf6)))
        have hdr : s.data.toList.drop (i + kk) = r' := by rw [← List.drop_drop, hl.out, ← hx.out]; exact hk3.out
        refine ⟨⟨i + kk, acc ++ [⟨x.toArray⟩], by omega, by simp; omega, by congr 1, Lib.hid (by rw [hdr]; exact hk.out), Lib.hid (by simpa [strs] using ho6), lo.next hn6 bel.size, bel.trans (hf6.belowB lo bel.size)⟩, by simp [intOf]; omega⟩
      | bareE c r r' acc e hm m1 m2 m3 h he =>
        obtain ⟨hlt, hc, hd2⟩ := drop_cons hl
        subst hc
        have n1 : s[i].toNat ≠ 32 := fun e => m1 (UInt8.toNat_inj.1 e)
        have n2 : s[i].toNat ≠ 35 := fun e => m2 (UInt8.toNat_inj.1 e)
        have n3 : s[i].toNat ≠ 34 := fun e => m3 (UInt8.toNat_inj.1 e)
        have b1 : ((s[i].toNat : Int) == 32) = false := by simp; omega
        have b2 : ((s[i].toNat : Int) == 35) = false := by simp; omega
        have b3 : ((s[i].toNat : Int) == 34) = false := by simp; omega
        have k1 := rmay_num (c := s[i]) rfl hm
        have h0 : Hid (runS 32 (s.data.toList.drop i) = (r', e)) := Lib.hid (by rw [hl]; exact h)
        clear hl h hd2
        go_wp2_with (go_at_call 97; with_reducible refine (k1 _).mono ?_; rintro e' w' ⟨rfl, rfl⟩)
        go_loop [5] (fun x5 => ∃ j : Nat, i ≤ j ∧ j ≤ s.size ∧ x5 = .int .i64 j ∧ Hid (runS 32 (s.data.toList.drop j) = (r', e)) ∧ (j = i → i < s.size)) (fun x5 => s.size - (intOf x5).toNat)
        case atStart => exact ⟨i, Nat.le_refl _, h1, rfl, h0, fun _ => hlt⟩
        case round =>
          obtain ⟨j, hj1, hj2, rfl, hj, hji⟩ := hrel
          obtain ⟨l2, hl2⟩ : ∃ l2, s.data.toList.drop j = l2 := ⟨_, rfl⟩
          rw [hl2] at hj
          cases l2 with
          | nil =>
            obtain rfl := drop_nil hj2 hl2
            exact absurd (congrArg Prod.snd hj.out).symm he
          | cons c2 r2 =>
            obtain ⟨hlt2, hc2, hd3⟩ := drop_cons hl2
            subst hc2
            by_cases hm2 : mayB s[j] = false
            · have k2 := rmay_num (c := s[j]) rfl hm2
              have n4 : s[j].toNat ≠ 32 := fun e => absurd hm2 ((show s[j] = 32 from UInt8.toNat_inj.1 e) ▸ by decide)
              have hq := hj.out
              unfold runS at hq
              rw [if_pos hm2] at hq
              have he2 : (81 : Int) = e := congrArg Prod.snd hq
              subst he2
              clear hq hj hl2 hd3
              go_wp2_with (go_at_call 97; with_reducible refine (k2 _).mono ?_; rintro e' w' ⟨rfl, rfl⟩)
              go_ret2
              exact ⟨.slice none 0 0, rfl, own_nil _ _ _, Lo.nil _, bel⟩
            · have hm3 : mayB s[j] = true := by simpa using hm2
              by_cases h32 : s[j].toNat = 32
              · have hq := hj.out
                unfold runS at hq
                rw [if_neg hm2, if_pos (by rw [h32]; rfl)] at hq
                exact absurd (congrArg Prod.snd hq).symm he
              · have k2 := rmay_num (c := s[j]) rfl hm3
                have hw3 : IntKind.i64.wrap ((j : Int) + 1) = ((j + 1 : Nat) : Int) := (IntWalk.i64_in _ (by omega)).trans (by omega)
                have hnx : Hid (runS 32 (s.data.toList.drop (j + 1)) = (r', e)) := Lib.hid (by rw [hd3, ← hj.out]; conv => rhs; unfold runS; rw [if_neg hm2, if_neg (by omega)])
                clear hj hl2 hd3
                go_wp2_with (go_at_call 97; with_reducible refine (k2 _).mono ?_; rintro e' w' ⟨rfl, rfl⟩)
                refine ⟨⟨j + 1, by omega, by omega, by congr 1, hnx, fun _ => hlt⟩, by simp [intOf]; omega⟩
      | bare c r r' acc R hm m1 m2 m3 h k =>
        obtain ⟨hlt, hc, hd2⟩ := drop_cons hl
        subst hc
        have n1 : s[i].toNat ≠ 32 := fun e => m1 (UInt8.toNat_inj.1 e)
        have n2 : s[i].toNat ≠ 35 := fun e => m2 (UInt8.toNat_inj.1 e)
        have n3 : s[i].toNat ≠ 34 := fun e => m3 (UInt8.toNat_inj.1 e)
        have b1 : ((s[i].toNat : Int) == 32) = false := by simp; omega
        have b2 : ((s[i].toNat : Int) == 35) = false := by simp; omega
        have b3 : ((s[i].toNat : Int) == 34) = false := by simp; omega
        have k1 := rmay_num (c := s[i]) rfl hm
        have h0 : Hid (runS 32 (s.data.toList.drop i) = (r', 0)) := Lib.hid (by rw [hl]; exact h)
        have hk := Lib.hid k
        clear k
        have hl1 := Lib.hid hl
        have hsz : (s[i] :: r).length = s.size - i := by have := congrArg List.length hl; rw [List.length_drop, len_data] at this; exact this.symm
        clear hl h hd2
        go_wp2_with (go_at_call 97; with_reducible refine (k1 _).mono ?_; rintro e' w' ⟨rfl, rfl⟩)
        go_loop [5] (fun x5 => ∃ j : Nat, i ≤ j ∧ j ≤ s.size ∧ x5 = .int .i64 j ∧ Hid (runS 32 (s.data.toList.drop j) = (r', 0)) ∧ (j = i → i < s.size)) (fun x5 => s.size - (intOf x5).toNat)
        case atStart => exact ⟨i, Nat.le_refl _, h1, rfl, h0, fun _ => hlt⟩
        case round =>
          obtain ⟨j, hj1, hj2, rfl, hj, hji⟩ := hrel
          obtain ⟨l2, hl2⟩ : ∃ l2, s.data.toList.drop j = l2 := ⟨_, rfl⟩
          rw [hl2] at hj
          cases l2 with
          | nil =>
            obtain rfl := drop_nil hj2 hl2
            have hji2 : i < s.size := by omega
            have hdr : Hid (s.data.toList.drop s.size = r') := Lib.hid (by rw [hl2]; exact congrArg Prod.fst hj.out)
            have hrl : r'.length = s.size - s.size := by rw [← hdr.out, List.length_drop, len_data]
            have hx : Hid (s.extract i s.size = ⟨((s[i] :: r).take ((s[i] :: r).length - r'.length)).toArray⟩) := Lib.hid (ba_eq (by rw [ext_list, hl1.out]; simp only [List.toList_toArray]; congr 1; omega))
            generalize (⟨((s[i] :: r).take ((s[i] :: r).length - r'.length)).toArray⟩ : ByteArray) = y at hx hk
            have hxe := hx.out
            clear hj hji hl2
            go_wp2_with (at_builtin; go_loud (refine wpList_app1 rfl (.tmp 35) (.tmp 40) 23 rfl Tryz.underlying23 Tryz.info9 rfl (by decide) (by decide) [.string y] rfl (by intro z hz; simp at hz; subst hz; rfl) rfl ho.out rfl (show (acc.length + 1) * 16 ≤ 140737488355328 by omega) ?_; intro v' w6 ho6 hn6 hf6))
            refine ⟨⟨s.size, acc ++ [y], by omega, by simp; omega, rfl, Lib.hid (by rw [hdr.out]; exact hk.out), Lib.hid (by simpa [strs] using ho6), lo.next hn6 bel.size, bel.trans (hf6.belowB lo bel.size)⟩, by simp [intOf]; omega⟩
          | cons c2 r2 =>
            obtain ⟨hlt2, hc2, hd3⟩ := drop_cons hl2
            subst hc2
            by_cases hm2 : mayB s[j] = false
            · have k2 := rmay_num (c := s[j]) rfl hm2
              have n4 : s[j].toNat ≠ 32 := fun e => absurd hm2 ((show s[j] = 32 from UInt8.toNat_inj.1 e) ▸ by decide)
              have hq := hj.out
              unfold runS at hq
              rw [if_pos hm2] at hq
              exact absurd (congrArg Prod.snd hq) (by simp)
            · have hm3 : mayB s[j] = true := by simpa using hm2
              by_cases h32 : s[j].toNat = 32
              · have hq := hj.out
                unfold runS at hq
                rw [if_neg hm2, if_pos (by rw [h32]; rfl)] at hq
                have hji2 : i < j := by refine Nat.lt_of_le_of_ne hj1 fun e => n1 ?_; subst e; exact h32
                have hdr : Hid (s.data.toList.drop j = r') := Lib.hid (by rw [hl2]; exact congrArg Prod.fst hq)
                have hrl : r'.length = s.size - j := by rw [← hdr.out, List.length_drop, len_data]
                have hx : Hid (s.extract i j = ⟨((s[i] :: r).take ((s[i] :: r).length - r'.length)).toArray⟩) := Lib.hid (ba_eq (by rw [ext_list, hl1.out]; simp only [List.toList_toArray]; congr 1; omega))
                generalize (⟨((s[i] :: r).take ((s[i] :: r).length - r'.length)).toArray⟩ : ByteArray) = y at hx hk
                have hxe := hx.out
                clear hj hji hl2
                go_wp2_with (at_builtin; go_loud (refine wpList_app1 rfl (.tmp 35) (.tmp 40) 23 rfl Tryz.underlying23 Tryz.info9 rfl (by decide) (by decide) [.string y] rfl (by intro z hz; simp at hz; subst hz; rfl) rfl ho.out rfl (show (acc.length + 1) * 16 ≤ 140737488355328 by omega) ?_; intro v' w6 ho6 hn6 hf6))
                refine ⟨⟨j, acc ++ [y], by omega, by simp; omega, rfl, Lib.hid (by rw [hdr.out]; exact hk.out), Lib.hid (by simpa [strs] using ho6), lo.next hn6 bel.size, bel.trans (hf6.belowB lo bel.size)⟩, by simp [intOf]; omega⟩
              · have k2 := rmay_num (c := s[j]) rfl hm3
                have hw3 : IntKind.i64.wrap ((j : Int) + 1) = ((j + 1 : Nat) : Int) := (IntWalk.i64_in _ (by omega)).trans (by omega)
                have hnx : Hid (runS 32 (s.data.toList.drop (j + 1)) = (r', 0)) := Lib.hid (by rw [hd3, ← hj.out]; conv => rhs; unfold runS; rw [if_neg hm2, if_neg (by omega)])
                clear hj hl2 hd3
                go_wp2_with (go_at_call 97; with_reducible refine (k2 _).mono ?_; rintro e' w' ⟨rfl, rfl⟩)
                refine ⟨⟨j + 1, by omega, by omega, by congr 1, hnx, fun _ => hlt⟩, by simp [intOf]; omega⟩
end Go.Proofs.YtnljjlaececnkaaGreatDoor
/-
  The document's Lines. No condition but the program's bound.
-/
namespace Go.Proofs.YtnljjlaececnkaaGreatDoor
open Go.RowKit
set_option linter.unusedVariables false
set_option linter.unusedSimpArgs false
set_option maxRecDepth 100000 in
set_option maxHeartbeats 3200000 in
theorem rlines_any {w : World} {f : ByteArray → List ByteArray × Int} (hf : ∀ s, WSpec s (f s)) {s : ByteArray} {R : List (Nat × List ByteArray) × Int × Nat} (hR : linesT f s = R) :
    Calls Tryz.prog 26 #[.string s] w fun e' w' => ∃ x vs, e' = .returned (.tuple #[x, .int .i64 R.2.1, .int .i64 ((R.2.2 : Nat) : Int)]) ∧ LinesAt w' x R.1 vs ∧ Lo w.heap.size x ∧ (∀ v ∈ vs, Lo w.heap.size v) ∧ Below w.heap.size w w' := by
  unfold linesT at hR
  by_cases hlong : 65536 < s.size
  · rw [if_pos hlong] at hR
    subst hR
    have hd : decide ((65536 : Int) < s.size) = true := decide_eq_true (by omega)
    go_enter Tryz.func26, Tryz.ntmps26
    go_wp2
    go_ret3
    exact ⟨.slice none 0 0, [], rfl, LinesAt.nil _, Lo.nil _, (fun v hv => nomatch hv), Below.refl _ _⟩
  · rw [if_neg hlong] at hR
    have hd : decide ((65536 : Int) < s.size) = false := decide_eq_false (by omega)
    obtain ⟨ps, hps⟩ : ∃ ps, pieces s ⟨#[10]⟩ = ps := ⟨_, rfl⟩
    obtain ⟨n, hn⟩ : ∃ n, ps.length = n := ⟨_, rfl⟩
    have hcut : ∀ W, Calls Tryz.prog 100 #[.string s, .int .u8 10] W fun e w' => (∃ v, e = .returned v ∧ w'.ownsRow 0 9 1 v n (strs ps) ∧ Lo W.heap.size v) ∧ Below W.heap.size W w' := fun W => by
      have := cut100_any (w := W) (s := s) (by omega) 10
      rw [← pieces_eq, hps, hn] at this
      exact this
    have hn0 : 0 < n := by
      rw [← hn, ← hps, pieces_eq]; unfold cutB
      rw [List.length_map]; exact List.length_pos_iff.2 (cutL_ne _ _)
    have hsz : ∀ x ∈ ps, x.size ≤ 65536 := fun x hx => by
      rw [← hps, pieces_eq] at hx
      have := piece_size hx; omega
    have hnl : n ≤ 65537 := by
      rw [← hn, ← hps, pieces_eq]; unfold cutB
      rw [List.length_map]
      have := cutL_many 10 s.data.toList
      rw [len_data] at this; omega
    rw [hps] at hR
    have HR := Lib.hid hR
    have Hs := Lib.hid hsz
    clear hR hps hsz
    go_enter Tryz.func26, Tryz.ntmps26
    go_wp2_with (go_at_call 100; refine (hcut _).mono ?_; clear hcut; rintro e w1 ⟨⟨v, rfl, hrow, low⟩, bel⟩; obtain ⟨A, c2, rfl, hc1, hc2⟩ := own_slice hrow; obtain ⟨g, rfl, -, hgl, hcell, hfr, -⟩ := own_at hrow hn0; have hcell := Lib.hid hcell; clear hrow hfr low)
    go_loopw [6, 7] (fun x5 x16 wr => ∃ (j : Nat) (acc : List (Nat × List ByteArray)) (vs : List Value), x16 = .int .i64 j ∧ j ≤ n ∧ acc.length ≤ j ∧ Hid (linesA f (ps.drop j) j acc = R) ∧ Hid (LinesAt wr x5 acc vs) ∧ Lo w1.heap.size x5 ∧ Hid (∀ v ∈ vs, Lo w1.heap.size v) ∧ Below w1.heap.size w1 wr) (fun x5 x16 wr => n - (intOf x16).toNat)
    case atStart => exact ⟨0, [], [], rfl, Nat.zero_le _, Nat.le_refl _, HR, Lib.hid (LinesAt.nil _), Lo.nil _, Lib.hid (fun v hv => by cases hv), Below.refl _ _⟩
    case round =>
      obtain ⟨j, acc, vs, rfl, hj, hal, hL, hA, lo, los, bel1⟩ := hrel
      by_cases hlt : j < n
      · have hgj := List.getElem?_eq_getElem (l := ps) (i := j) (by omega)
        obtain ⟨p, hp⟩ : ∃ p, ps[j] = p := ⟨_, rfl⟩
        rw [hp] at hgj
        have q0 : w1.cell? ⟨g, j, none⟩ = some (.string p) := hcell.out j _ (by unfold strs; rw [List.getElem?_map, hgj]; rfl)
        have q1 : wr.cell? ⟨g, j, none⟩ = some (.string p) := (Below.cell (p := ⟨g, j, none⟩) bel1 hgl).trans q0
        have hps := Hs.out p (List.mem_of_getElem? hgj)
        have hdrop : ps.drop j = p :: ps.drop (j + 1) := by rw [List.drop_eq_getElem_cons (by omega), hp]
        have hwd := rwords_any (w := wr) (s := p) (R := f p) (by omega) (hf p)
        have hL2 := hL.out
        rw [hdrop] at hL2
        unfold linesA at hL2
        clear hL hdrop hp q0
        replace hgj := Lib.hid hgj
        have hw1 : IntKind.i64.wrap ((j : Int) + 1) = ((j + 1 : Nat) : Int) := (IntWalk.i64_in _ (by omega)).trans (by omega)
        generalize f p = q at hwd hL2
        obtain ⟨ws, e0⟩ := q
        simp only at hL2 hwd
        by_cases he : e0 = 0
        · subst he
          rw [if_pos rfl] at hL2
          cases ws with
          | nil =>
            rw [if_pos rfl] at hL2
            have hL3 := Lib.hid hL2
            clear hL2
            go_wp2_with (go_at_call 24; refine hwd.mono ?_; clear hwd; rintro e w2 ⟨v, rfl, ho, lov, bel2⟩; obtain ⟨A, c, rfl, hc1, hc2⟩ := own_slice ho)
            refine ⟨⟨j + 1, acc, vs, by congr 1, by omega, by omega, hL3, Lib.hid (hA.out.below bel2), lo, los, bel1.trans (bel2.mono bel1.size)⟩, by simp [intOf]; omega⟩
          | cons x ws =>
            rw [if_neg (by simp)] at hL2
            have hL3 := Lib.hid hL2
            clear hL2
            have hpos : 0 < (x :: ws).length := by simp
            generalize x :: ws = zs at *
            go_wp2_with (first | (go_at_call 24; refine hwd.mono ?_; clear hwd; rintro e w2 ⟨v, rfl, ho, lov, bel2⟩; have ho9 := Lib.hid ho; have hA2 := Lib.hid (hA.out.below bel2); have hvx := Lib.hid (lo_ne hA.out.row lov); obtain ⟨A, c, hv, hc1, hc2⟩ := own_slice ho; subst hv; clear ho) | (at_builtin; go_loud (refine wpList_app1 rfl (.tmp 37) (.tmp 42) 32 rfl Tryz.underlying32 info40z rfl (by decide) (by decide) [.int .i64 ((j + 1 : Nat) : Int), .slice A zs.length c] rfl (by intro z hz; simp at hz; rcases hz with rfl | rfl <;> rfl) rfl hA2.out.row rfl (by omega) ?_; intro v' w6 ho6 hn6 hf6)))
            refine ⟨⟨j + 1, acc ++ [(j + 1, zs)], vs ++ [.slice A zs.length c], by congr 1, by omega, by simp; omega, hL3, Lib.hid (hA2.out.snoc ho9.out hvx.out ho6 hn6 hf6), lo.next hn6 (Nat.le_trans bel1.size bel2.size), Lib.hid (fun u hu => (List.mem_append.1 hu).elim (los.out u) (fun h => by simp at h; subst h; exact lov.mono bel1.size)), (bel1.trans (bel2.mono bel1.size)).trans (hf6.belowB lo (Nat.le_trans bel1.size bel2.size))⟩, by simp [intOf]; omega⟩
        · rw [if_neg he] at hL2
          have hne : (e0 != 0) = true := by simpa using he
          have hL3 := Lib.hid hL2
          replace he := Lib.hid he
          clear hL2
          go_wp2_with (go_at_call 24; refine hwd.mono ?_; clear hwd; rintro e w2 ⟨v, rfl, ho, lov, bel2⟩; obtain ⟨A, c, rfl, hc1, hc2⟩ := own_slice ho)
          go_ret3
          exact ⟨.slice none 0 0, [], by rw [← hL3.out]; rfl, by rw [← hL3.out]; exact LinesAt.nil _, Lo.nil _, (fun v hv => nomatch hv), bel.trans ((bel1.trans (bel2.mono bel1.size)).mono bel.size)⟩
      · obtain rfl : j = n := by omega
        have hL2 := hL.out
        rw [List.drop_of_length_le (by omega)] at hL2
        have hL3 : Hid ((acc, (0 : Int), 0) = R) := Lib.hid hL2
        clear hL hL2
        go_wp2
        go_ret3
        exact ⟨_, vs, by rw [← hL3.out]; rfl, by rw [← hL3.out]; exact hA.out, lo.mono bel.size, fun v hv => (los.out v hv).mono bel.size, bel.trans (bel1.mono bel.size)⟩
end Go.Proofs.YtnljjlaececnkaaGreatDoor
/-
  What a card's listed variables give the walks; the opening of arguments that are addresses, prefixes, pairs. No condition.
-/
namespace Go.Proofs.YtnljjlaececnkaaGreatDoor
open Go.ChangeShapes Go.WideShapes Go.ChangeAt Go.RowKit
set_option linter.unusedVariables false
set_option linter.unusedSimpArgs false
theorem star_err : "*" ++ "errors.errorString" = "*errors.errorString" := by decide
theorem row354 (u : TypeId) (h : Tryz.prog.typeName? 3 u = some "*errors.errorString") : u = 354 :=
  typeName_ptr_named (nm := "errors.errorString") (by rw [star_err]; kernel_rfl) (by kernel_rfl) (by decide) u (by rw [star_err]; exact h)
theorem c356 : Tryz.prog.cellsOf 356 = 1 := by kernel_rfl
theorem c9' : Tryz.prog.cellsOf 9 = 1 := by kernel_rfl
theorem c5' : Tryz.prog.cellsOf 5 = 1 := by kernel_rfl
def bruijn : List Int := [0, 1, 56, 2, 57, 49, 28, 3, 61, 58, 42, 50, 38, 29, 17, 4, 62, 47, 59, 36, 45, 43, 51, 22, 53, 39, 33, 30, 24, 18, 12, 5, 63, 55, 48, 27, 60, 41, 37, 16, 46, 35, 44, 21, 52, 32, 23, 11, 54, 26, 40, 15, 34, 20, 31, 10, 25, 14, 19, 9, 13, 8, 7, 6]
theorem tab_below {P : Program} {w w' : World} {name : String} {k : IntKind} {zs : List Int} (h : Lib.TabIs P w name k zs) (hb : Below w.heap.size w w') : Lib.TabIs P w' name k zs := by
  unfold Lib.TabIs World.var? at *
  cases hg : P.globalNamed name with
  | none => simp [hg] at h
  | some g =>
    simp only [hg, Option.bind_some] at h ⊢
    have hlt : g < w.heap.size := by
      rcases Nat.lt_or_ge g w.heap.size with h' | h'
      · exact h'
      · simp [Array.getElem?_eq_none h'] at h
    rw [hb.block g hlt]; exact h
theorem EnvC.below {W W' : World} (h : EnvC W) (hb : Below W.heap.size W W') : EnvC W' := by
  have hc : ∀ {b o : Nat} {v : Value}, W.cell? ⟨b, o, none⟩ = some v → W'.cell? ⟨b, o, none⟩ = some v := fun {b o v} hv => by
    rw [hb.cell (p := ⟨b, o, none⟩) (World.block_lt_of_cell? W _ hv)]; exact hv
  obtain ⟨⟨m, h1⟩, ⟨e1, h2, i2⟩, ⟨e2, h3, i3⟩, h4, h5⟩ := h
  exact ⟨⟨m, hc h1⟩, ⟨e1, hc h2, i2⟩, ⟨e2, hc h3, i3⟩, tab_below h4 hb, hc h5⟩
theorem EnvC.env {W : World} (h : EnvC W) : Env W := fun W' hb => h.below hb
theorem envc_of {W : World} (hsh : W.ShapedOpen Tryz.prog) (hL : laidMetH Tryz.prog Rows.addrTreeRow.laid W) : EnvC W := by
  rw [MakeChecks.laidMetH_plain _ _ _ (by kernel_rfl)] at hL
  obtain ⟨m, hm⟩ := cell_of_shapedOpen_int (g := 0) (zero := #[.int .i64 0]) (t := 3) hsh (of_decide_eq_true (by kernel_rfl)) (by kernel_rfl) rfl (by kernel_rfl) (by kernel_rfl) Tryz.underlying3
  have h1 := hL.tail
  have h2 := h1.tail
  have h4 := h2.tail.tail
  have h5 := h4.tail
  have t64 : Lib.TabIs Tryz.prog W "math/bits.deBruijn64tab" .u8 bruijn := Lib.tabIs_of_head (g := 7) (t := 382) (e := 5) (n := 64) (by kernel_rfl) (by kernel_rfl) Tryz.underlying382 Tryz.underlying5 c5' (by kernel_rfl) h1
  have tp : Lib.TabIs Tryz.prog W "internal/strconv.uint64pow10" .u64 Lib.pow10Tab := Lib.tabIs_of_head (g := 3) (t := 324) (e := 161) (n := 20) (by kernel_rfl) (by kernel_rfl) Tryz.underlying324 Tryz.underlying161 (by kernel_rfl) (by kernel_rfl) h2
  obtain ⟨a1, s1, v1, -, -, -⟩ := laid_sentinel h4 (g := 2) (ti := 158) (by kernel_rfl) (by kernel_rfl) Tryz.underlying158 row354 Tryz.underlying354 Tryz.underlying356 rfl rfl Tryz.underlying9 c356 c9'
  obtain ⟨a2, s2, v2, -, -, -⟩ := laid_sentinel h5 (g := 1) (ti := 158) (by kernel_rfl) (by kernel_rfl) Tryz.underlying158 row354 Tryz.underlying354 Tryz.underlying356 rfl rfl Tryz.underlying9 c356 c9'
  have c1 := World.var?_cell (show Tryz.prog.globalNamed "strconv.ErrRange" = some 2 by kernel_rfl) v1 0
  have c2 := World.var?_cell (show Tryz.prog.globalNamed "strconv.ErrSyntax" = some 1 by kernel_rfl) v2 0
  exact ⟨⟨m, hm⟩, ⟨_, by simpa using c2, .inr ⟨_, _, rfl⟩⟩, ⟨_, by simpa using c1, .inr ⟨_, _, rfl⟩⟩, tp, by have := t64.cell (show Tryz.prog.globalNamed "math/bits.deBruijn64tab" = some 7 by kernel_rfl) 15 (by decide); simpa [bruijn] using this⟩
theorem env_of {W : World} (hsh : W.ShapedOpen Tryz.prog) (hL : laidMetH Tryz.prog Rows.addrTreeRow.laid W) : Env W := (envc_of hsh hL).env
/-! ### arguments -/
theorem cell_int {P : Program} {w : World} {r : Reach} {base : Nat} {t : TypeId} {v : Value} {k : IntKind} (ht : P.underlying t = some (.int k)) (h : Cell.okWide P w r base t v) : ∃ n, v = .int k n ∧ k.has n := by
  unfold Cell.okWide at h
  rw [ht] at h
  cases v <;> simp_all [Cell.ok]
/-- A row of cells, each a whole number of its kind. -/
theorem open_cells {P : Program} {w : World} {r : Reach} {base : Nat} {t : TypeId} {cs : Array Value} {ts : List TypeId} {ks : List IntKind} (hts : P.cellTypes P.depth t = some ts) (hk : ts.map P.underlying = ks.map fun k => some (.int k)) (hsz : cs.size = ts.length) (h : Row.okWide P w r base t cs) :
    ∃ xs : List Int, xs.length = ts.length ∧ ∀ (i : Nat) (k : IntKind), ks[i]? = some k → ∃ x, xs[i]? = some x ∧ cs[i]? = some (.int k x) ∧ k.has x := by
  obtain ⟨ts', h1, -, h3⟩ := h
  rw [hts] at h1; cases h1
  have key : ∀ i, i < ts.length → ∃ k x, ks[i]? = some k ∧ cs[i]? = some (.int k x) ∧ k.has x := by
    intro i hi
    obtain ⟨v, hv⟩ : ∃ v, cs[i]? = some v := ⟨_, Array.getElem?_eq_getElem (by omega)⟩
    obtain ⟨u, hu, ho⟩ := h3 i v hv
    rw [Nat.mod_eq_of_lt hi] at hu
    have e := congrArg (fun l => l[i]?) hk
    simp only [List.getElem?_map, hu, Option.map_some] at e
    cases hki : ks[i]? with
    | none => rw [hki] at e; cases e
    | some k =>
      rw [hki] at e
      obtain ⟨x, rfl, hx⟩ := cell_int (Option.some.inj e) ho
      exact ⟨k, x, rfl, hv, hx⟩
  have hl : ks.length = ts.length := by have := congrArg List.length hk; simpa using this.symm
  refine ⟨(List.range ts.length).map fun i => (match cs[i]? with | some (Value.int _ x) => x | _ => (0 : Int)), by simp, fun i k hki => ?_⟩
  have hi : i < ts.length := by have := (List.getElem?_eq_some_iff.1 hki).1; omega
  obtain ⟨k', x, h1, h2, h4⟩ := key i hi
  rw [hki] at h1; cases h1
  exact ⟨x, by simp [hi, h2], h2, h4⟩
theorem has_u8 {x : Int} (h : IntKind.u8.has x) : 0 ≤ x ∧ x < 256 := by
  have e1 : IntKind.u8.min = 0 := rfl
  have e2 : IntKind.u8.max = 255 := rfl
  simp [IntKind.has, e1, e2] at h; omega
theorem rep_get {α : Type} {n i : Nat} (k : α) (h : i < n) : (List.replicate n k)[i]? = some k := by rw [List.getElem?_replicate, if_pos h]
theorem ct42 : Tryz.prog.cellTypes Tryz.prog.depth 42 = some (List.replicate 16 5) := by kernel_rfl
theorem ct55 : Tryz.prog.cellTypes Tryz.prog.depth 55 = some (List.replicate 16 5 ++ [3]) := by kernel_rfl
theorem ct57 : Tryz.prog.cellTypes Tryz.prog.depth 57 = some (List.replicate 16 5 ++ [3] ++ (List.replicate 16 5 ++ [3])) := by kernel_rfl
theorem size42' : Tryz.prog.cellsOf 42 = 16 := by kernel_rfl
theorem arr_eq {cs : Array Value} {l : List Value} (hl : cs.size = l.length) (h : ∀ i, i < l.length → cs[i]? = l[i]?) : cs = l.toArray := by
  apply Array.ext_getElem?
  intro i
  by_cases hi : i < l.length
  · rw [h i hi, List.getElem?_toArray]
  · rw [Array.getElem?_eq_none (by omega), List.getElem?_toArray, List.getElem?_eq_none (by omega)]
section
variable {w : World} {r : Reach} {base : Nat} {v : Value}
set_option maxRecDepth 100000 in
/-- An address that came in. -/
theorem open_A (h : Value.okWide Tryz.prog w r base 42 v) : ∃ a, v = vA a ∧ isA a := by
  unfold Value.okWide at h
  rw [Tryz.underlying42] at h
  obtain ⟨cs, rfl, hsz, hr⟩ := h
  rw [size42'] at hsz
  obtain ⟨xs, hl, hx⟩ := open_cells (ks := List.replicate 16 .u8) ct42 (by simp [Tryz.underlying5]) (by simp [hsz]) hr
  have hg : ∀ i, i < 16 → ∃ x, xs[i]? = some x ∧ cs[i]? = some (.int .u8 x) ∧ IntKind.u8.has x := fun i hi => hx i .u8 (rep_get _ hi)
  have hl' : xs.length = 16 := by simpa using hl
  refine ⟨xs, ?_, hl', fun x hm => ?_⟩
  · unfold vA
    congr 1
    refine arr_eq (by rw [nums_length]; omega) fun i hi => ?_
    rw [nums_length] at hi
    obtain ⟨x, h1, h2, -⟩ := hg i (by omega)
    rw [h2, nums_get h1]
  · obtain ⟨i, hi, rfl⟩ := List.mem_iff_getElem.1 hm
    obtain ⟨x, h1, -, h3⟩ := hg i (by omega)
    rw [List.getElem?_eq_getElem hi] at h1
    rw [Option.some.inj h1]; exact has_u8 h3
theorem has_i64 {x : Int} (h : IntKind.i64.has x) : (Lit.int .i64 x).wf = true := by
  simp [IntKind.has] at h
  simp [Lit.wf]; omega
set_option maxRecDepth 100000 in
/-- The part of a row that is a prefix. -/
theorem open_pf {cs : Array Value} {off : Nat} (h8 : ∀ i, i < 16 → ∃ x, cs[off + i]? = some (.int .u8 x) ∧ IntKind.u8.has x) (hn : ∃ x, cs[off + 16]? = some (.int .i64 x) ∧ IntKind.i64.has x) :
    ∃ p : Pf, p.ok ∧ ∀ j, j < 17 → cs[off + j]? = (pCs p.a p.n)[j]? := by
  obtain ⟨n, hn, hn2⟩ := hn
  have hg : ∀ i, i < 16 → ((List.range 16).map fun i => (match cs[off + i]? with | some (Value.int _ x) => x | _ => (0 : Int)))[i]? = some (match cs[off + i]? with | some (Value.int _ x) => x | _ => (0 : Int)) := fun i hi => by simp [hi]
  refine ⟨⟨(List.range 16).map fun i => (match cs[off + i]? with | some (Value.int _ x) => x | _ => (0 : Int)), n⟩, ⟨⟨by simp, fun x hx => ?_⟩, has_i64 hn2⟩, fun j hj => ?_⟩
  · obtain ⟨i, hi, rfl⟩ := List.mem_map.1 hx
    obtain ⟨y, h1, h2⟩ := h8 i (by simpa using hi)
    rw [h1]; exact has_u8 h2
  · by_cases h16 : j < 16
    · obtain ⟨y, h1, h2⟩ := h8 j h16
      have := hg j h16
      rw [h1] at this ⊢
      exact (pCs_at (p := ⟨_, n⟩) (nums_get (k := .u8) this)).symm
    · obtain rfl : j = 16 := by omega
      rw [hn]
      exact (pCs_get (p := ⟨_, n⟩) ⟨by simp, fun x hx => by
        obtain ⟨i, hi, rfl⟩ := List.mem_map.1 hx
        obtain ⟨y, h1, h2⟩ := h8 i (by simpa using hi)
        rw [h1]; exact has_u8 h2⟩).symm
set_option maxRecDepth 100000 in
/-- A prefix that came in. -/
theorem open_P (h : Value.okWide Tryz.prog w r base 55 v) : ∃ p, v = vPf p ∧ p.ok := by
  unfold Value.okWide at h
  rw [Tryz.underlying55] at h
  obtain ⟨cs, rfl, hsz, hr⟩ := h
  rw [c55] at hsz
  obtain ⟨xs, hl, hx⟩ := open_cells (ks := List.replicate 16 .u8 ++ [.i64]) ct55 (by simp [Tryz.underlying5, Tryz.underlying3]) (by simp [hsz]) hr
  obtain ⟨p, hp, he⟩ := open_pf (cs := cs) (off := 0) (fun i hi => by
      obtain ⟨x, -, h2, h3⟩ := hx i .u8 (by rw [List.getElem?_append_left (by rw [List.length_replicate]; exact hi)]; exact rep_get _ hi)
      exact ⟨x, by simpa using h2, h3⟩) (by
      obtain ⟨x, -, h2, h3⟩ := hx 16 .i64 (by simp)
      exact ⟨x, by simpa using h2, h3⟩)
  refine ⟨p, ?_, hp⟩
  unfold vPf
  congr 1
  refine arr_eq (by rw [pCs_len hp.1]; exact hsz) fun j hj => ?_
  rw [pCs_len hp.1] at hj
  simpa using he j hj
set_option maxRecDepth 100000 in
/-- A pair that came in. -/
theorem open_PP (h : Value.okWide Tryz.prog w r base 57 v) : ∃ p, v = vPP p ∧ p.fit := by
  unfold Value.okWide at h
  rw [Tryz.underlying57] at h
  obtain ⟨cs, rfl, hsz, hr⟩ := h
  rw [c57] at hsz
  obtain ⟨xs, hl, hx⟩ := open_cells (ks := List.replicate 16 .u8 ++ [.i64] ++ (List.replicate 16 .u8 ++ [.i64])) ct57 (by simp [Tryz.underlying5, Tryz.underlying3]) (by simp [hsz]) hr
  obtain ⟨p, hp, he⟩ := open_pf (cs := cs) (off := 0) (fun i hi => by
      obtain ⟨x, -, h2, h3⟩ := hx i .u8 (by rw [List.append_assoc, List.getElem?_append_left (by rw [List.length_replicate]; exact hi)]; exact rep_get _ hi)
      exact ⟨x, by simpa using h2, h3⟩) (by
      obtain ⟨x, -, h2, h3⟩ := hx 16 .i64 (by simp)
      exact ⟨x, by simpa using h2, h3⟩)
  obtain ⟨q, hq, hf⟩ := open_pf (cs := cs) (off := 17) (fun i hi => by
      obtain ⟨x, -, h2, h3⟩ := hx (17 + i) .u8 (by
        have e : (List.replicate 16 IntKind.u8 ++ [IntKind.i64]).length = 17 := rfl
        rw [List.getElem?_append_right (by omega), e, Nat.add_sub_cancel_left, List.getElem?_append_left (by rw [List.length_replicate]; exact hi)]; exact rep_get _ hi)
      exact ⟨x, h2, h3⟩) (by
      obtain ⟨x, -, h2, h3⟩ := hx 33 .i64 (by simp)
      exact ⟨x, by simpa using h2, h3⟩)
  refine ⟨⟨p, q⟩, ?_, hp, hq⟩
  unfold vPP
  congr 1
  refine arr_eq (by rw [List.length_append, pCs_len hp.1, pCs_len hq.1]; exact hsz) fun j hj => ?_
  rw [List.length_append, pCs_len hp.1, pCs_len hq.1] at hj
  by_cases hj17 : j < 17
  · rw [List.getElem?_append_left (by rw [pCs_len hp.1]; exact hj17)]
    simpa using he j hj17
  · rw [List.getElem?_append_right (by rw [pCs_len hp.1]; omega), pCs_len hp.1, ← hf (j - 17) (by omega), show 17 + (j - 17) = j by omega]
end
end Go.Proofs.YtnljjlaececnkaaGreatDoor
/-
  The closed facts on the whole program that each row asks, one declaration each. No condition.
-/
namespace Go.Proofs.YtnljjlaececnkaaGreatDoor
open Go.ChangeShapes Go.WideShapes
set_option linter.unusedVariables false
theorem jf_out : laidOutB Tryz.pinned.checked.prog = true := by kernel_rfl
theorem jf_maps : mapsRowed Tryz.pinned.checked.prog = true := by kernel_rfl
theorem jf_stops : (Tryz.pinned.checked.prog.stops == []) = true := by kernel_rfl
theorem jf_knobs : (Tryz.pinned.checked.prog.stopKnobs == []) = true := by kernel_rfl
theorem jf_keys : (false == Tryz.pinned.checked.prog.plainKeys) = true := by kernel_rfl
theorem jf_heard : Tryz.pinned.checked.prog.stopsHeard = true := by kernel_rfl
theorem jf_enter : Tryz.pinned.checked.prog.mayEnter = true := by kernel_rfl
theorem jf_lift : (Rows.addrTreeRow.lifted == Tryz.pinned.checked.prog.liftsFinal) = true := by kernel_rfl
theorem jf_make : (Tryz.pinned.checked.prog.make == some Rows.addrTreeRow.make) = true := by kernel_rfl
/-! ### of a card -/
theorem jf_main : Tryz.pinned.checked.prog.mainIs = some (true, "11f230a8d8e2c1745f747872d237d21740fd6a16d7af62534ef2deb61fc91356".toList) := by kernel_rfl
theorem jf_looks : true = Tryz.pinned.checked.prog.looks [] := by kernel_rfl
end Go.Proofs.YtnljjlaececnkaaGreatDoor
/-
  The closed facts of a row, out of those of its own and those on the whole program. No condition.
-/
namespace Go.Proofs.YtnljjlaececnkaaGreatDoor
open Go.ChangeShapes Go.WideShapes
set_option linter.unusedVariables false
/-- The closed facts of a row, out of those of its own. -/
theorem joined_gen {P : Program} {f : FuncId} {fn : Func} {s : ChangeSpec} {c : OpenClaim}
    (jf_out : laidOutB P = true) (jf_maps : mapsRowed P = true) (jf_stops : (P.stops == []) = true) (jf_knobs : (P.stopKnobs == []) = true) (k1 : (c.plainKeys == P.plainKeys) = true) (jf_heard : P.stopsHeard = true) (jf_enter : P.mayEnter = true) (k2 : (c.lifted == P.liftsFinal) = true) (k3 : (P.make == some c.make) = true)
    (a1 : c.wf (OpenSpec.ofChange s) = true) (a2 : fn.params.all (P.readableRec ·) = true) (a3 : namedTie P c.named s.vars = true) (a4 : (c.stops == []) = true) (a5 : (c.knobs == []) = true)
    (a6 : (c.inPlace == P.inPlace f) = true) (a7 : (c.unfollowed == P.unfollowed f) = true) (a8 : (c.recurses == P.recurses f) = true) (a9 : (c.named == P.varsNamed f) = true)
    (b1 : (c.maps == (fn.params.toList ++ s.plain.varTypes P).any (P.mapsRec ·)) = true) (b2 : (c.ifaces == (fn.params.toList ++ s.plain.varTypes P).any (P.ifacesRec ·)) = true) (b3 : (c.mapsOut == P.mapsAmong fn.resultTypes.toList) = true)
    (b4 : (c.loops == (fn.params.toList ++ s.plain.varTypes P).any (P.loopsFrom ·)) = true) (b5 : (c.wideKeys == (fn.params.toList ++ s.plain.varTypes P ++ fn.resultTypes.toList).any (P.wideKeysFrom ·)) = true)
    (b6 : s.vars.all (P.varReadable ·) = true) (b7 : fn.resultTypes.all (fun t => P.readableRec t && decide (t < P.types.size)) = true) (b8 : (c.ifacesOut == fn.resultTypes.toList.any (P.ifacesRec ·)) = true) (b9 : (c.loopsOut == fn.resultTypes.toList.any (P.loopsFrom ·)) = true)
    (d1 : c.shortTexts.isNone = true) (d2 : (c.kinds == (if c.domain.isEmpty then [] else fn.params.toList.map fun t => match P.underlying t with | some (.int k) => some k | _ => none)) = true) (d3 : (c.pinned == c.pinnedBy) = true)
    (d4 : (c.veiled == (fn.params.toList ++ s.plain.varTypes P ++ fn.resultTypes.toList).any (P.veiledRec ·)) = true) (d5 : c.veiledFits P fn.params.toList (fn.params.toList ++ s.plain.varTypes P ++ fn.resultTypes.toList) = true) :
    joinedFacts P f fn s c = true := by
  unfold joinedFacts
  rw [a1, jf_out, jf_maps, a2, a3, a4, jf_stops, a5, jf_knobs, a6, a7, a8, a9, b1, b2, b3, b4, b5, b6, b7, b8, b9, k1, d1, jf_heard, jf_enter, k2, k3, d3, d4, d5]
  simp only [Bool.true_and, Bool.and_true]
  exact d2
/-- The closed facts of a row, out of those of its own. -/
theorem joined_of {f : FuncId} {fn : Func} {s : ChangeSpec} {c : OpenClaim}
    (hk : c.plainKeys = false) (hl : c.lifted = Rows.addrTreeRow.lifted) (hm : c.make = Rows.addrTreeRow.make)
    (a1 : c.wf (OpenSpec.ofChange s) = true) (a2 : fn.params.all (Tryz.pinned.checked.prog.readableRec ·) = true) (a3 : namedTie Tryz.pinned.checked.prog c.named s.vars = true) (a4 : (c.stops == []) = true) (a5 : (c.knobs == []) = true)
    (a6 : (c.inPlace == Tryz.pinned.checked.prog.inPlace f) = true) (a7 : (c.unfollowed == Tryz.pinned.checked.prog.unfollowed f) = true) (a8 : (c.recurses == Tryz.pinned.checked.prog.recurses f) = true) (a9 : (c.named == Tryz.pinned.checked.prog.varsNamed f) = true)
    (b1 : (c.maps == (fn.params.toList ++ s.plain.varTypes Tryz.pinned.checked.prog).any (Tryz.pinned.checked.prog.mapsRec ·)) = true) (b2 : (c.ifaces == (fn.params.toList ++ s.plain.varTypes Tryz.pinned.checked.prog).any (Tryz.pinned.checked.prog.ifacesRec ·)) = true) (b3 : (c.mapsOut == Tryz.pinned.checked.prog.mapsAmong fn.resultTypes.toList) = true)
    (b4 : (c.loops == (fn.params.toList ++ s.plain.varTypes Tryz.pinned.checked.prog).any (Tryz.pinned.checked.prog.loopsFrom ·)) = true) (b5 : (c.wideKeys == (fn.params.toList ++ s.plain.varTypes Tryz.pinned.checked.prog ++ fn.resultTypes.toList).any (Tryz.pinned.checked.prog.wideKeysFrom ·)) = true)
    (b6 : s.vars.all (Tryz.pinned.checked.prog.varReadable ·) = true) (b7 : fn.resultTypes.all (fun t => Tryz.pinned.checked.prog.readableRec t && decide (t < Tryz.pinned.checked.prog.types.size)) = true) (b8 : (c.ifacesOut == fn.resultTypes.toList.any (Tryz.pinned.checked.prog.ifacesRec ·)) = true) (b9 : (c.loopsOut == fn.resultTypes.toList.any (Tryz.pinned.checked.prog.loopsFrom ·)) = true)
    (d1 : c.shortTexts.isNone = true) (d2 : (c.kinds == (if c.domain.isEmpty then [] else fn.params.toList.map fun t => match Tryz.pinned.checked.prog.underlying t with | some (.int k) => some k | _ => none)) = true) (d3 : (c.pinned == c.pinnedBy) = true)
    (d4 : (c.veiled == (fn.params.toList ++ s.plain.varTypes Tryz.pinned.checked.prog ++ fn.resultTypes.toList).any (Tryz.pinned.checked.prog.veiledRec ·)) = true) (d5 : c.veiledFits Tryz.pinned.checked.prog fn.params.toList (fn.params.toList ++ s.plain.varTypes Tryz.pinned.checked.prog ++ fn.resultTypes.toList) = true) :
    joinedFacts Tryz.pinned.checked.prog f fn s c = true := by
  have k1 : (c.plainKeys == Tryz.pinned.checked.prog.plainKeys) = true := by rw [hk]; exact jf_keys
  have k2 : (c.lifted == Tryz.pinned.checked.prog.liftsFinal) = true := by rw [hl]; exact jf_lift
  have k3 : (Tryz.pinned.checked.prog.make == some c.make) = true := by rw [hm]; exact jf_make
  exact joined_gen jf_out jf_maps jf_stops jf_knobs k1 jf_heard jf_enter k2 k3 a1 a2 a3 a4 a5 a6 a7 a8 a9 b1 b2 b3 b4 b5 b6 b7 b8 b9 d1 d2 d3 d4 d5
end Go.Proofs.YtnljjlaececnkaaGreatDoor
