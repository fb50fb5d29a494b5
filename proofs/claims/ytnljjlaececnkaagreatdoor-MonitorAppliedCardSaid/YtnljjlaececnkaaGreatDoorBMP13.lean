/-
  What a card's listed variables give the walks. No condition.
-/
import Derived.Test.YtnljjlaececnkaaGreatDoorBMP12
import Derived.Test.YtnljjlaececnkaaGreatDoorRows
import Derived.Lib.LaidTab
import Derived.Stop.LaidErr
import Derived.Shelf.Vars
import Derived.MakeChecks
namespace Go.Proofs.YtnljjlaececnkaaGreatDoor
open Go.ChangeShapes Go.WideShapes Go.ChangeAt Go.RowKit
set_option linter.unusedVariables false
set_option linter.unusedSimpArgs false
theorem star_err : "*" ++ "errors.errorString" = "*errors.errorString" := by decide
theorem row354 (u : TypeId) (h : Tryz.prog.typeName? 3 u = some "*errors.errorString") : u = 354 :=
  typeName_ptr_named (nm := "errors.errorString") (by rw [star_err]; kernel_rfl) (by kernel_rfl) (by decide) u (by rw [star_err]; exact h)
theorem c356 : Tryz.prog.cellsOf 356 = 1 := by kernel_rfl
theorem c5' : Tryz.prog.cellsOf 5 = 1 := by kernel_rfl
def bruijn : List Int := [0, 1, 56, 2, 57, 49, 28, 3, 61, 58, 42, 50, 38, 29, 17, 4, 62, 47, 59, 36, 45, 43, 51, 22, 53, 39, 33, 30, 24, 18, 12, 5, 63, 55, 48, 27, 60, 41, 37, 16, 46, 35, 44, 21, 52, 32, 23, 11, 54, 26, 40, 15, 34, 20, 31, 10, 25, 14, 19, 9, 13, 8, 7, 6]
theorem envc_of {W : World} (hsh : W.ShapedOpen Tryz.prog) (hL : laidMetH Tryz.prog Rows.addrTreeRow.laid W) : EnvC W := by
  rw [MakeChecks.laidMetH_plain _ _ _ (by kernel_rfl)] at hL
  obtain ⟨m, hm⟩ := cell_of_shapedOpen_int (g := 0) (zero := #[.int .i64 0]) (t := 3) hsh (of_decide_eq_true (by kernel_rfl)) (by kernel_rfl) rfl (by kernel_rfl) (by kernel_rfl) Tryz.underlying3
  have h1 := hL.tail
  have h2 := h1.tail
  have h4 := h2.tail.tail
  have h5 := h4.tail
  have t64 : Lib.TabIs Tryz.prog W "math/bits.deBruijn64tab" .u8 bruijn := Lib.tabIs_of_head (g := 7) (t := 382) (e := 5) (n := 64) (by kernel_rfl) (by kernel_rfl) Tryz.underlying382 Tryz.underlying5 c5' (by kernel_rfl) h1
  have tp : Lib.TabIs Tryz.prog W "internal/strconv.uint64pow10" .u64 Lib.pow10Tab := Lib.tabIs_of_head (g := 3) (t := 324) (e := 161) (n := 20) (by kernel_rfl) (by kernel_rfl) Tryz.underlying324 Tryz.underlying161 (by kernel_rfl) (by kernel_rfl) h2
  obtain ⟨a1, s1, v1, -, -, -⟩ := laid_sentinel h4 (g := 2) (ti := 158) (by kernel_rfl) (by kernel_rfl) Tryz.underlying158 row354 Tryz.underlying354 Tryz.underlying356 rfl rfl Tryz.underlying9 c356 c9'
  obtain ⟨a2, s2, v2, -, -, -⟩ := laid_sentinel h5 (g := 1) (ti := 158) (by kernel_rfl) (by kernel_rfl) Tryz.underlying158 row354 Tryz.underlying354 Tryz.underlying356 rfl rfl Tryz.underlying9 c356 c9'
  have c1 := World.var?_cell (show Tryz.prog.globalNamed "strconv.ErrRange" = some 2 by kernel_rfl) v1 0
  have c2 := World.var?_cell (show Tryz.prog.globalNamed "strconv.ErrSyntax" = some 1 by kernel_rfl) v2 0
  exact ⟨⟨m, hm⟩, ⟨_, by simpa using c2, .inr ⟨_, _, rfl⟩⟩, ⟨_, by simpa using c1, .inr ⟨_, _, rfl⟩⟩, tp, by have := t64.cell (show Tryz.prog.globalNamed "math/bits.deBruijn64tab" = some 7 by kernel_rfl) 15 (by decide); simpa [bruijn] using this⟩
theorem env_of {W : World} (hsh : W.ShapedOpen Tryz.prog) (hL : laidMetH Tryz.prog Rows.addrTreeRow.laid W) : Env W := (envc_of hsh hL).env
end Go.Proofs.YtnljjlaececnkaaGreatDoor
