/- What the rows' listed variables give the walks: the digits, the powers of ten and strconv's errors. -/
import Derived.Test.YtkhdhelhkokdcaaDoorRows
import Derived.Test.YtkhdhelhkokdcaaDoorLawKit
import Derived.Test.YtkhdhelhkokdcaaDoorErrs
import Derived.LaidLaws
import Derived.Lay
namespace Go.Proofs.YtkhdhelhkokdcaaDoor
open Go.ChangeShapes Go.WideShapes Go.ChangeAt Go.RowKit

theorem row_es (u : TypeId) (h : Tryd.prog.typeName? 3 u = some "*errors.errorString") : u = 105 := by
  have star : ("*errors.errorString" : String) = "*" ++ "errors.errorString" := by decide +kernel
  exact typeName_ptr_named (nm := "errors.errorString") (by rw [← star]; kernel_rfl) (by kernel_rfl) (by decide) u (by rw [← star]; exact h)
def laidList : List (String × DataW Unit) := Rows.journalEncodesRow.laid
theorem errs_lt {W : World} {n : String} {g : Nat} {cs : Array Value} (hg : Tryd.prog.globalNamed n = some g) (h : W.var? Tryd.prog n = some cs) : g < W.heap.size := by
  unfold World.var? at h
  rw [hg, Option.bind_some] at h
  split at h
  · rename_i cs t fr hb
    exact (Array.getElem?_eq_some_iff.1 hb).1
  · cases h
theorem laid_tabs {W : World} (h : laidMetH Tryd.prog laidList W) : DigOk W ∧ PowOk W ∧ ErrsOk W := by
  rw [MakeChecks.laidMetH_plain _ _ _ (by kernel_rfl)] at h
  have h3 : laidMet Tryd.prog _ W := h.tail.tail
  have h5 : laidMet Tryd.prog _ W := h3.tail
  have h6 : laidMet Tryd.prog _ W := h5.tail
  have h7 : laidMet Tryd.prog _ W := h6.tail
  have t3 := Lib.tabIs_of_head (P := Tryd.prog) (W := W) (k := .u64) (zs := Lib.pow10Tab) (g := 4) (t := 100) (e := 65) (n := 20) (by kernel_rfl) (by kernel_rfl) Tryd.underlying100 Tryd.underlying65 (by kernel_rfl) (by kernel_rfl) h3
  have t4 := Lib.tabIs_of_head (P := Tryd.prog) (W := W) (k := .u8) (zs := [48, 49, 50, 51, 52, 53, 54, 55, 56, 57, 97, 98, 99, 100, 101, 102]) (g := 0) (t := 78) (e := 5) (n := 16) (by kernel_rfl) (by kernel_rfl) Tryd.underlying78 Tryd.underlying5 (by kernel_rfl) (by kernel_rfl) h7
  obtain ⟨t, fr, hb⟩ := tab_block (g := 0) (by kernel_rfl) t4
  obtain ⟨a5, s5, hv5, _⟩ := laid_sentinel (g := 3) (te := 107) h5 (by kernel_rfl) (by kernel_rfl) Tryd.underlying69 row_es Tryd.underlying105 Tryd.underlying107 rfl rfl Tryd.underlying9 (by kernel_rfl) (by kernel_rfl)
  obtain ⟨a6, s6, hv6, _⟩ := laid_sentinel (g := 2) (te := 107) h6 (by kernel_rfl) (by kernel_rfl) Tryd.underlying69 row_es Tryd.underlying105 Tryd.underlying107 rfl rfl Tryd.underlying9 (by kernel_rfl) (by kernel_rfl)
  exact ⟨⟨t, fr, hb⟩, ⟨⟨4, by kernel_rfl, tab_lt (by kernel_rfl) t3⟩, t3⟩, ⟨⟨_, _, hv6⟩, ⟨_, _, hv5⟩, errs_lt (by kernel_rfl) hv6, errs_lt (by kernel_rfl) hv5⟩⟩
/- The world that holds what is listed: it serves as the rows' witness. -/
set_option maxRecDepth 100000 in
theorem w_hv (os : Os) (args : Array Value) : ((World.laidAll Tryd.prog os laidList).forCall (fun _ _ => 0) ⟨#[], args, []⟩).variablesB Tryd.prog = true := by kernel_rfl
set_option maxRecDepth 100000 in
theorem w_hr (os : Os) (args : Array Value) : (((World.laidAll Tryd.prog os laidList).forCall (fun _ _ => 0) ⟨#[], args, []⟩).heap.toList.drop Tryd.prog.globals.size).take ((begin Tryd.prog (fun _ _ => 0) default).world.heap.size - Tryd.prog.globals.size) =
      (begin Tryd.prog (fun _ _ => 0) default).world.heap.toList.drop Tryd.prog.globals.size := by kernel_rfl
set_option maxRecDepth 100000 in
theorem w_laid (os : Os) (args : Array Value) : laidMet Tryd.prog laidList ((World.laidAll Tryd.prog os laidList).forCall (fun _ _ => 0) ⟨#[], args, []⟩).memory :=
  laidMet_laidAll args (by kernel_rfl) (by kernel_rfl)
end Go.Proofs.YtkhdhelhkokdcaaDoor
