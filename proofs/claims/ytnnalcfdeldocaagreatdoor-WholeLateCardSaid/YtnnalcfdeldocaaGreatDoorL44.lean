/- The tie, fact by fact: what is listed; the small facts. -/
import Derived.Test.YtnnalcfdeldocaaGreatDoorRows
import Derived.LaidByTextLater
import Derived.SevenTiedAt
namespace Go.Proofs.YtnnalcfdeldocaaGreatDoor
open Go
/-- The listed variables but the pinned one. -/
def LD : List (String × DataW Unit) := [("strconv.ErrSyntax", Rows.laid_strconv_ErrSyntax), ("strconv.ErrRange", Rows.laid_strconv_ErrRange), ("internal/strconv.uint64pow10", Rows.laid_internal_strconv_uint64pow10), ("math/bits.deBruijn32tab", Rows.laid_math_bits_deBruijn32tab), ("math/bits.deBruijn64tab", Rows.laid_math_bits_deBruijn64tab), ("unicode/utf8.acceptRanges", Rows.laid_unicode_utf8_acceptRanges)]
def KD : List LaidKind := [.sentinel, .sentinel, .data, .data, .data, .data]
theorem tie_hg : (Tryz.prog.funcNamed "gosem.cut.vars").isSome = true := by kernel_rfl
theorem tie_hk : LD.map (fun x => Tryz.prog.kindOfLater x.1) = KD.map some := by kernel_rfl
theorem tie_hn : varsNamedLaterB Tryz.prog (varsId Tryz.prog) LD = true := by kernel_rfl
theorem tie_hp : (LD.all fun x => x.2.handleName?.isNone) = true := by kernel_rfl
end Go.Proofs.YtnnalcfdeldocaaGreatDoor
