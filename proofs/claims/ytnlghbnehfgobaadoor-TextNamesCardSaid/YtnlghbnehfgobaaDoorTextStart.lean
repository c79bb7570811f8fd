/- The facts with which every law of the chapter begins: out of what the row lists. -/
import Derived.Test.YtnlghbnehfgobaaDoorTextAwake
import Derived.Test.YtnlghbnehfgobaaDoorDoorWords
import Derived.LaidSub
import Derived.Lib.LaidTab
set_option linter.unusedVariables false
namespace Go.Proofs.YtnlghbnehfgobaaDoor.My
open Go.RowKit Go.ChangeShapes Go.WideShapes Go.ChangeAt
noncomputable def laidL : List (String × DataW Unit) := [("cotterel/inst.fields", Rows.laid_cotterel_inst_fields), ("unicode/utf8.acceptRanges", Rows.laid_unicode_utf8_acceptRanges), ("unicode.White_Space", Rows.laid_unicode_White_Space), ("strings.asciiSpace", Rows.laid_strings_asciiSpace), ("unicode/utf8.first", Rows.laid_unicode_utf8_first)]
theorem maxLen_cell (w : World) (h : w.ShapedOpen Tryd.prog) : ∃ m, w.cell? ⟨3, 0, none⟩ = some (.int .i64 m) :=
  Go.Proofs.cell_of_shapedOpen_int (zero := #[.int .i64 0]) (t := 3) h (of_decide_eq_true (by kernel_rfl)) (by kernel_rfl) rfl (by kernel_rfl) (by kernel_rfl) Tryd.underlying3
set_option maxRecDepth 100000 in
theorem space_of (w : World) (h : laidMetH Tryd.prog laidL w) : Lib.TabIs Tryd.prog w "strings.asciiSpace" .u8 Lib.asciiSpaceTab := by
  have h1 := laidMetH.filter (fun x => x.1 == "strings.asciiSpace") h
  have e : laidL.filter (fun x => x.1 == "strings.asciiSpace") = [("strings.asciiSpace", Lib.tabData .u8 Lib.asciiSpaceTab)] := rfl
  rw [e, MakeChecks.laidMetH_plain _ _ _ rfl] at h1
  exact Lib.tabIs_of_head (g := 0) (t := 63) (e := 5) (n := 256) (by kernel_rfl) (by kernel_rfl) Tryd.underlying63 Tryd.underlying5 (by kernel_rfl) (by kernel_rfl) h1
set_option maxRecDepth 100000 in
theorem fields_of (w : World) (h : laidMetH Tryd.prog laidL w) : FieldsAt w := by
  have h1 := laidMetH.filter (fun x => x.1 == "cotterel/inst.fields") h
  have e : laidL.filter (fun x => x.1 == "cotterel/inst.fields") = [("cotterel/inst.fields", Lib.tabData .i64 bitsL)] := rfl
  rw [e, MakeChecks.laidMetH_plain _ _ _ rfl] at h1
  have hg : Tryd.prog.globalNamed "cotterel/inst.fields" = some 2 := by kernel_rfl
  have ht := Lib.tabIs_of_head (g := 2) (t := 89) (e := 3) (n := 12) hg (by kernel_rfl) Tryd.underlying89 Tryd.underlying3 (by kernel_rfl) (by kernel_rfl) h1
  exact fun i hi => ht.cell hg i hi
theorem start_any (w : World) (hs : w.ShapedOpen Tryd.prog) (h : laidMetH Tryd.prog laidL w) : ∃ m, St m w := by
  obtain ⟨m, hm⟩ := maxLen_cell w hs
  exact ⟨m, hm, fields_of w h, space_of w h⟩
end Go.Proofs.YtnlghbnehfgobaaDoor.My
