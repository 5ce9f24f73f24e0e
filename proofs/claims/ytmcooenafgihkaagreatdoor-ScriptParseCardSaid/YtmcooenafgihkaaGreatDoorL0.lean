/- Helper lemmas: what the row lists of the library's variables gives. No condition. -/
import Derived.Test.YtmcooenafgihkaaGreatDoorP18
import Derived.Test.YtmcooenafgihkaaGreatDoorShelf
import Derived.Stop.LaidErr
import Derived.Lib.LaidTab
import Derived.LaidMore
set_option linter.unusedSimpArgs false
set_option linter.unusedVariables false
namespace Go.Proofs.YtmcooenafgihkaaGreatDoor
open Go.RowKit

theorem gES : Tryz.prog.globalNamed "strconv.ErrSyntax" = some 1 := by kernel_rfl
theorem gEST : (Tryz.prog.globals[(1 : Nat)]?).map (·.type) = some 63 := by kernel_rfl
theorem gER : Tryz.prog.globalNamed "strconv.ErrRange" = some 2 := by kernel_rfl
theorem gERT : (Tryz.prog.globals[(2 : Nat)]?).map (·.type) = some 63 := by kernel_rfl
theorem gPT : Tryz.prog.globalNamed "internal/strconv.uint64pow10" = some 4 := by kernel_rfl
theorem gPTT : (Tryz.prog.globals[(4 : Nat)]?).map (·.type) = some 146 := by kernel_rfl
theorem starE : "*" ++ "errors.errorString" = "*errors.errorString" := by decide
theorem rowE (u : TypeId) (h : Tryz.prog.typeName? 3 u = some "*errors.errorString") : u = 142 :=
  typeName_ptr_named (nm := "errors.errorString") (by rw [starE]; kernel_rfl) (by kernel_rfl) (by decide) u (by rw [starE]; exact h)
/-- What the rows list. -/
abbrev laidL : List (String × DataW Unit) := [("math/bits.deBruijn32tab", Rows.laid_math_bits_deBruijn32tab), ("math/bits.deBruijn64tab", Rows.laid_math_bits_deBruijn64tab), ("internal/strconv.uint64pow10", Rows.laid_internal_strconv_uint64pow10), ("unicode/utf8.acceptRanges", Rows.laid_unicode_utf8_acceptRanges), ("strconv.ErrRange", Rows.laid_strconv_ErrRange), ("strconv.ErrSyntax", Rows.laid_strconv_ErrSyntax), ("unicode/utf8.first", Rows.laid_unicode_utf8_first)]
theorem pow10_data : (Rows.laid_internal_strconv_uint64pow10 : DataW Unit) = Lib.tabData .u64 Lib.pow10Tab := by kernel_rfl
theorem globM_of (W : World) (hsh : W.ShapedOpen Tryz.prog) (hL0 : laidMetH Tryz.prog laidL W) : GlobM W := by
  have hL : laidMet Tryz.prog laidL W := by rwa [MakeChecks.laidMetH_plain _ _ _ (by kernel_rfl)] at hL0
  obtain ⟨m, hm⟩ := Tryz.laysM146.s1_3 W hsh
  obtain ⟨a1, s1, hv1, -, -, -⟩ := laid_sentinel hL.tail.tail.tail.tail gER gERT Tryz.underlying63 rowE Tryz.underlying142 Tryz.underlying144 rfl rfl Tryz.underlying9 (by kernel_rfl) (by kernel_rfl)
  obtain ⟨a0, s0, hv0, -, -, -⟩ := laid_sentinel hL.tail.tail.tail.tail.tail gES gEST Tryz.underlying63 rowE Tryz.underlying142 Tryz.underlying144 rfl rfl Tryz.underlying9 (by kernel_rfl) (by kernel_rfl)
  have ht := hL.tail.tail
  rw [pow10_data] at ht
  have hT := Lib.tabIs_of_head gPT gPTT Tryz.underlying146 Tryz.underlying80 (by kernel_rfl) (by kernel_rfl) ht
  exact ⟨⟨⟨_, _, hv0⟩, ⟨_, _, hv1⟩, hT⟩, m, hm⟩
end Go.Proofs.YtmcooenafgihkaaGreatDoor
