/-
  What the calls of the stage's first line answer: closed facts. No condition.
-/
import Derived.Test.YtnljjlaececnkaaGreatDoorPB
import Derived.Test.YtnljjlaececnkaaGreatDoorBB
namespace Go.Proofs.YtnljjlaececnkaaGreatDoor
open Go.RowKit
set_option linter.unusedVariables false
set_option linter.unusedSimpArgs false
def aV : List Int := mapd ++ [10, 1, 2, 3]
def bV : List Int := [32, 1, 13, 184, 0, 0, 0, 0, 0, 1, 0, 0, 0, 0, 0, 1]
def cV : List Int := mapd ++ [10, 0, 0, 1]
def pV : Pf := ⟨mapd ++ [10, 0, 0, 0], 104⟩
def qV : Pf := ⟨mapd ++ [10, 1, 0, 0], 112⟩
def pP : Pr := ⟨pV, anyP (pfam pV)⟩
def qP : Pr := ⟨qV, anyP (pfam qV)⟩
theorem aV_ok : isA aV := ⟨rfl, by decide⟩
theorem bV_ok : isA bV := ⟨rfl, by decide⟩
theorem cV_ok : isA cV := ⟨rfl, by decide⟩
theorem pV_ok : pV.ok := ⟨⟨rfl, by decide⟩, rfl⟩
theorem qV_ok : qV.ok := ⟨⟨rfl, by decide⟩, rfl⟩
theorem pP_fit : pP.fit := ⟨pV_ok, any_ok _⟩
theorem qP_fit : qP.fit := ⟨qV_ok, any_ok _⟩
theorem aV_print : printS aV = [49, 48, 46, 49, 46, 50, 46, 51] := by decide +kernel
theorem bV_print : groupedS bV = [50, 48, 48, 49, 58, 100, 98, 56, 58, 58, 49, 58, 48, 58, 48, 58, 49] := by decide +kernel
theorem bV_fam : fam bV = 6 := by decide +kernel
theorem aV_fam : fam aV = 4 := by decide +kernel
theorem aV_parse : parseS ⟨#[49, 48, 46, 49, 46, 50, 46, 51]⟩ = some aV := by have := parse_print aV_ok; rw [aV_print] at this; exact this
theorem bV_parse : parseS ⟨#[50, 48, 48, 49, 58, 100, 98, 56, 58, 58, 49, 58, 48, 58, 48, 58, 49]⟩ = some bV := by
  have := parse_print bV_ok
  unfold printS at this
  rw [bV_fam, if_neg (by decide), bV_print] at this; exact this
theorem pV_chk : chk pV = true := by decide +kernel
theorem qV_chk : chk qV = true := by decide +kernel
theorem pV_print : pfxS pV = [49, 48, 46, 48, 46, 48, 46, 48, 47, 56] := by decide +kernel
theorem qV_print : pfxS qV = [49, 48, 46, 49, 46, 48, 46, 48, 47, 49, 54] := by decide +kernel
theorem pV_parse : parsePS ⟨#[49, 48, 46, 48, 46, 48, 46, 48, 47, 56]⟩ = (pV, 0) := by have := back_pfx pV_ok.1 pV_chk; rw [pV_print] at this; exact this
theorem qV_parse : parsePS ⟨#[49, 48, 46, 49, 46, 48, 46, 48, 47, 49, 54]⟩ = (qV, 0) := by have := back_pfx qV_ok.1 qV_chk; rw [qV_print] at this; exact this
theorem one_piece {l : List UInt8} (h : ∀ c ∈ l, c ≠ 32) : pieces ⟨l.toArray⟩ ⟨#[32]⟩ = [⟨l.toArray⟩] := by
  rw [pieces_eq]
  unfold cutB
  rw [List.toList_toArray, cutL_miss h]; rfl
theorem pV_one : pieces ⟨#[49, 48, 46, 48, 46, 48, 46, 48, 47, 56]⟩ ⟨#[32]⟩ = [⟨#[49, 48, 46, 48, 46, 48, 46, 48, 47, 56]⟩] := one_piece (l := [49, 48, 46, 48, 46, 48, 46, 48, 47, 56]) (by decide)
theorem qV_one : pieces ⟨#[49, 48, 46, 49, 46, 48, 46, 48, 47, 49, 54]⟩ ⟨#[32]⟩ = [⟨#[49, 48, 46, 49, 46, 48, 46, 48, 47, 49, 54]⟩] := one_piece (l := [49, 48, 46, 49, 46, 48, 46, 48, 47, 49, 54]) (by decide)
theorem pP_chk : chkPP pP = true := by decide +kernel
theorem qP_chk : chkPP qP = true := by decide +kernel
theorem pP_mat : mat pP aV aV = true := by decide +kernel
theorem qP_mat : mat qP aV aV = true := by decide +kernel
theorem cV_dot : dottedS cV = [49, 48, 46, 48, 46, 48, 46, 49] := by decide +kernel
theorem eight : Lib.itoa 8 = [56] := by decide +kernel
theorem cV_parse : parsePS ⟨#[49, 48, 46, 48, 46, 48, 46, 49, 47, 56]⟩ = (zeroP, 21) := by
  have hcut : Lib.cut (⟨#[49, 48, 46, 48, 46, 48, 46, 49, 47, 56]⟩ : ByteArray).data.toList slashB.data.toList = (dottedS cV, Lib.itoa 8, true) := by
    have := cut_byte (c := 47) (p := dottedS cV) (fun c hc => (dotted_bytes cV_ok c hc).1) (Lib.itoa 8)
    rw [cV_dot, eight] at this ⊢
    exact this
  rw [raw_q hcut (decS_itoa (by decide) (by decide)) (quad_dotted cV_ok (by decide +kernel))]
  exact if_neg (by decide +kernel)
theorem best_V {k : Nat} {ok : Bool} (h : IsBest [pP, qP] aV aV 2 k ok) : k = 1 ∧ ok = true := by
  cases ok with
  | false => have := (h.no rfl).2 0 pP (by decide) rfl; rw [pP_mat] at this; cases this
  | true =>
    refine ⟨?_, rfl⟩
    obtain ⟨hk, b, hb, -, hall⟩ := h.yes rfl
    have h1 := hall 1 qP (by decide) rfl qP_mat
    match k, hk, hb with
    | 0, _, hb =>
      cases hb
      exact absurd h1 (by decide +kernel)
    | 1, _, _ => rfl
theorem cmp_V : cmpA aV bV = -1 := by decide +kernel
end Go.Proofs.YtnljjlaececnkaaGreatDoor
