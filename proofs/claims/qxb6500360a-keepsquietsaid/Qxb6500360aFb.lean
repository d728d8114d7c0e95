/- -/
import Derived.Test.Qxb6500360aFa
namespace Go.Proofs.Qxb6500360a
open Go.RowKit
set_option linter.unusedSimpArgs false
set_option linter.unusedVariables false
def Xx0 : V.Gt := V.Gt.fresh
def Xx1 : V.Gt := (Xx0.serve [66, 48]).1
theorem eXx0 : (Xx0.serve [66, 48]).2 = ([49, 48, 48], 0) := by kernel_rfl
def Xx2 : V.Gt := (Xx1.serve [84, 48, 49, 51, 48]).1
theorem eXx1 : (Xx1.serve [84, 48, 49, 51, 48]).2 = ([55, 48], 0) := by kernel_rfl
def Xx3 : V.Gt := (Xx2.serve [66, 49]).1
theorem eXx2 : (Xx2.serve [66, 49]).2 = ([49, 51, 48], 0) := by kernel_rfl
def Xx4 : V.Gt := (Xx3.serve [66, 48]).1
theorem eXx3 : (Xx3.serve [66, 48]).2 = ([55, 48], 0) := by kernel_rfl
def Xx5 : V.Gt := (Xx4.serve [65]).1
theorem eXx4 : (Xx4.serve [65]).2 = ([52, 48, 48], 0) := by kernel_rfl
def Xx6 : V.Gt := (Xx5.serve [78, 50]).1
theorem eXx5 : (Xx5.serve [78, 50]).2 = ([99, 121, 100], 0) := by kernel_rfl
def Xx7 : V.Gt := (Xx6.serve [83, 48, 51]).1
theorem eXx6 : (Xx6.serve [83, 48, 51]).2 = ([50, 51], 0) := by kernel_rfl
def Xx8 : V.Gt := (Xx7.serve [88, 48, 49, 49, 48, 59, 49, 50, 50, 48, 59]).1
theorem eXx7 : (Xx7.serve [88, 48, 49, 49, 48, 59, 49, 50, 50, 48, 59]).2 = ([50], 0) := by kernel_rfl
def Xx9 : V.Gt := (Xx8.serve [66, 48]).1
theorem eXx8 : (Xx8.serve [66, 48]).2 = ([54, 48], 0) := by kernel_rfl
def Xx10 : V.Gt := (Xx9.serve [66, 49]).1
theorem eXx9 : (Xx9.serve [66, 49]).2 = ([49, 50, 48], 0) := by kernel_rfl
def Xx11 : V.Gt := (Xx10.serve [66, 50]).1
theorem eXx10 : (Xx10.serve [66, 50]).2 = ([49, 50, 48], 0) := by kernel_rfl
def Xx12 : V.Gt := (Xx11.serve [84, 48, 49, 57, 57, 57]).1
theorem eXx11 : (Xx11.serve [84, 48, 49, 57, 57, 57]).2 = ([], 6) := by kernel_rfl
def Xx13 : V.Gt := (Xx12.serve [84, 49, 50, 49, 50, 48]).1
theorem eXx12 : (Xx12.serve [84, 49, 50, 49, 50, 48]).2 = ([48], 0) := by kernel_rfl
def Xx14 : V.Gt := (Xx13.serve [84, 51, 50, 53, 48]).1
theorem eXx13 : (Xx13.serve [84, 51, 50, 53, 48]).2 = ([], 7) := by kernel_rfl
def Xx15 : V.Gt := (Xx14.serve [66, 51]).1
theorem eXx14 : (Xx14.serve [66, 51]).2 = ([49, 48, 48], 0) := by kernel_rfl
def Xx16 : V.Gt := (Xx15.serve [66, 50]).1
theorem eXx15 : (Xx15.serve [66, 50]).2 = ([50, 52, 48], 0) := by kernel_rfl
def Xx17 : V.Gt := (Xx16.serve [84, 48, 48, 49]).1
theorem eXx16 : (Xx16.serve [84, 48, 48, 49]).2 = ([], 3) := by kernel_rfl
def Xx18 : V.Gt := (Xx17.serve [84, 48, 53, 48]).1
theorem eXx17 : (Xx17.serve [84, 48, 53, 48]).2 = ([], 2) := by kernel_rfl
def Xx19 : V.Gt := (Xx18.serve [88, 48, 49, 49, 48, 59, 48, 51, 57, 57, 57, 59]).1
theorem eXx18 : (Xx18.serve [88, 48, 49, 49, 48, 59, 48, 51, 57, 57, 57, 59]).2 = ([35, 49], 6) := by kernel_rfl
def Xx20 : V.Gt := (Xx19.serve [66, 48]).1
theorem eXx19 : (Xx19.serve [66, 48]).2 = ([54, 48], 0) := by kernel_rfl
def Xx21 : V.Gt := (Xx20.serve [66, 49]).1
theorem eXx20 : (Xx20.serve [66, 49]).2 = ([48], 0) := by kernel_rfl
def Xx22 : V.Gt := (Xx21.serve [88, 48, 49, 49, 59, 48, 49, 49, 59, 48, 49, 49, 59, 48, 49, 49, 59]).1
theorem eXx21 : (Xx21.serve [88, 48, 49, 49, 59, 48, 49, 49, 59, 48, 49, 49, 59, 48, 49, 49, 59]).2 = ([35, 48], 1) := by kernel_rfl
def Xx23 : V.Gt := (Xx22.serve [83, 48, 48]).1
theorem eXx22 : (Xx22.serve [83, 48, 48]).2 = ([], 9) := by kernel_rfl
def Xx24 : V.Gt := (Xx23.serve [83, 57, 48]).1
theorem eXx23 : (Xx23.serve [83, 57, 48]).2 = ([], 2) := by kernel_rfl
def Xx25 : V.Gt := (Xx24.serve [78, 52]).1
theorem eXx24 : (Xx24.serve [78, 52]).2 = ([], 9) := by kernel_rfl
def Xx26 : V.Gt := (Xx25.serve []).1
theorem eXx25 : (Xx25.serve []).2 = ([64, 48], 8) := by kernel_rfl
def Xx27 : V.Gt := (Xx26.serve [90]).1
theorem eXx26 : (Xx26.serve [90]).2 = ([64, 48], 8) := by kernel_rfl
def Xx28 : V.Gt := (Xx27.serve [84, 48]).1
theorem eXx27 : (Xx27.serve [84, 48]).2 = ([64, 50], 8) := by kernel_rfl
def Xx29 : V.Gt := (Xx28.serve [66, 48, 120]).1
theorem eXx28 : (Xx28.serve [66, 48, 120]).2 = ([64, 50], 8) := by kernel_rfl
def Xx30 : V.Gt := (Xx29.serve [84, 48, 49, 49, 50, 51, 52]).1
theorem eXx29 : (Xx29.serve [84, 48, 49, 49, 50, 51, 52]).2 = ([64, 54], 8) := by kernel_rfl
def Xx31 : V.Gt := (Xx30.serve [88, 48, 49, 49]).1
theorem eXx30 : (Xx30.serve [88, 48, 49, 49]).2 = ([64, 52], 8) := by kernel_rfl
def Xx32 : V.Gt := (Xx31.serve [65, 65, 65, 65, 65, 65, 65, 65, 65, 65, 65, 65, 65, 65, 65, 65, 65, 65, 65, 65, 65]).1
theorem eXx31 : (Xx31.serve [65, 65, 65, 65, 65, 65, 65, 65, 65, 65, 65, 65, 65, 65, 65, 65, 65, 65, 65, 65, 65]).2 = ([], 1) := by kernel_rfl
def Xx33 : V.Gt := (Xx32.serve [84, 48, 49, 48]).1
theorem eXx32 : (Xx32.serve [84, 48, 49, 48]).2 = ([], 2) := by kernel_rfl
def Xx34 : V.Gt := (Xx33.serve [84, 57, 57, 49]).1
theorem eXx33 : (Xx33.serve [84, 57, 57, 49]).2 = ([], 2) := by kernel_rfl
def Xx35 : V.Gt := (Xx34.serve [84, 49, 50, 57, 57]).1
theorem eXx34 : (Xx34.serve [84, 49, 50, 57, 57]).2 = ([], 6) := by kernel_rfl
def Xx36 : V.Gt := (Xx35.serve [65, 65, 65, 65, 65, 65, 65, 65, 65, 65, 65, 65, 65, 65, 65, 65, 65, 65, 65, 65]).1
theorem eXx35 : (Xx35.serve [65, 65, 65, 65, 65, 65, 65, 65, 65, 65, 65, 65, 65, 65, 65, 65, 65, 65, 65, 65]).2 = ([64, 49], 8) := by kernel_rfl
def Xx37 : V.Gt := (Xx36.serve [78, 48]).1
theorem eXx36 : (Xx36.serve [78, 48]).2 = ([97, 110, 110], 0) := by kernel_rfl
def Xx38 : V.Gt := (Xx37.serve [78, 49]).1
theorem eXx37 : (Xx37.serve [78, 49]).2 = ([98, 111, 98], 0) := by kernel_rfl
def Xx39 : V.Gt := (Xx38.serve [88, 48, 49, 49, 120]).1
theorem eXx38 : (Xx38.serve [88, 48, 49, 49, 120]).2 = ([64, 52], 8) := by kernel_rfl
def Xx40 : V.Gt := (Xx39.serve [65]).1
theorem eXx39 : (Xx39.serve [65]).2 = ([52, 48, 48], 0) := by kernel_rfl
theorem shwA : ∃ s : ByteArray, S Xx40.show = .string s ∧ s.size = 97 ∧ s.extract 0 56 = ⟨#[111, 107, 61, 49, 57, 32, 98, 97, 100, 61, 49, 48, 32, 101, 114, 114, 61, 57, 32, 105, 110, 116, 61, 50, 32, 124, 32, 98, 97, 108, 61, 54, 48, 44, 48, 44, 50, 52, 48, 44, 49, 48, 48, 44, 32, 117, 110, 100, 111, 110, 101, 61, 50, 32, 124, 32]⟩ := ⟨⟨Xx40.show.toArray⟩, rfl, by kernel_rfl, by kernel_rfl⟩
def loopY : Nat → V.Gt
  | 0 => V.Gt.fresh
  | k + 1 => ((loopY k).serve []).1
abbrev loopY0 : V.Gt := loopY 0
abbrev Xy0 : V.Gt := loopY 100
theorem shwB : ∃ s : ByteArray, S Xy0.show = .string s ∧ s.size = 83 ∧ s.extract 0 26 = ⟨#[111, 107, 61, 48, 32, 98, 97, 100, 61, 57, 57, 32, 101, 114, 114, 61, 48, 32, 105, 110, 116, 61, 48, 32, 124, 32]⟩ := ⟨⟨Xy0.show.toArray⟩, rfl, by kernel_rfl, by kernel_rfl⟩
def Xy1 : V.Gt := (Xy0.serve [88, 48, 49, 49, 59, 48, 49, 49, 59, 48, 49, 49, 59]).1
theorem eXy0 : (Xy0.serve [88, 48, 49, 49, 59, 48, 49, 49, 59, 48, 49, 49, 59]).2 = ([51], 0) := by kernel_rfl
def Xy2 : V.Gt := (Xy1.serve [84, 48, 49, 58]).1
theorem eXy1 : (Xy1.serve [84, 48, 49, 58]).2 = ([64, 51], 8) := by kernel_rfl
def Xy3 : V.Gt := (Xy2.serve [84, 48, 49, 47]).1
theorem eXy2 : (Xy2.serve [84, 48, 49, 47]).2 = ([64, 51], 8) := by kernel_rfl
def Xy4 : V.Gt := (Xy3.serve [66, 58]).1
theorem eXy3 : (Xy3.serve [66, 58]).2 = ([64, 49], 8) := by kernel_rfl
theorem lXy4 : Xy4.show = [111, 107, 61, 49, 32, 98, 97, 100, 61, 57, 57, 32, 101, 114, 114, 61, 48, 32, 105, 110, 116, 61, 48, 32, 124, 32, 98, 97, 108, 61, 57, 55, 44, 49, 48, 51, 44, 49, 48, 48, 44, 49, 48, 48, 44, 32, 117, 110, 100, 111, 110, 101, 61, 48, 32, 124, 32, 111, 112, 101, 110, 61, 48, 48, 48, 48, 32, 103, 101, 110, 61, 49, 49, 48, 48, 32, 116, 114, 97, 99, 101, 61, 65, 48, 65, 49, 82, 49, 82, 48] := by kernel_rfl
def Xy5 : V.Gt := (Xy4.serve [84, 48, 49, 48]).1
theorem eXy4 : (Xy4.serve [84, 48, 49, 48]).2 = ([], 2) := by kernel_rfl
theorem lXy5 : Xy5.show = [111, 107, 61, 49, 32, 98, 97, 100, 61, 57, 57, 32, 101, 114, 114, 61, 49, 32, 105, 110, 116, 61, 48, 32, 124, 32, 98, 97, 108, 61, 57, 55, 44, 49, 48, 51, 44, 49, 48, 48, 44, 49, 48, 48, 44, 32, 117, 110, 100, 111, 110, 101, 61, 48, 32, 124, 32, 111, 112, 101, 110, 61, 48, 48, 48, 48, 32, 103, 101, 110, 61, 49, 49, 48, 48, 32, 116, 114, 97, 99, 101, 61] := by kernel_rfl
def Xy6 : V.Gt := (Xy5.serve [84, 49, 48, 49]).1
theorem eXy5 : (Xy5.serve [84, 49, 48, 49]).2 = ([49, 48, 50], 0) := by kernel_rfl
theorem lXy6 : Xy6.show = [111, 107, 61, 50, 32, 98, 97, 100, 61, 57, 57, 32, 101, 114, 114, 61, 49, 32, 105, 110, 116, 61, 48, 32, 124, 32, 98, 97, 108, 61, 57, 56, 44, 49, 48, 50, 44, 49, 48, 48, 44, 49, 48, 48, 44, 32, 117, 110, 100, 111, 110, 101, 61, 48, 32, 124, 32, 111, 112, 101, 110, 61, 48, 48, 48, 48, 32, 103, 101, 110, 61, 50, 50, 48, 48, 32, 116, 114, 97, 99, 101, 61, 65, 48, 65, 49, 82, 48, 82, 49] := by kernel_rfl
def Xy7 : V.Gt := (Xy6.serve [88, 49, 48, 49, 59]).1
theorem eXy6 : (Xy6.serve [88, 49, 48, 49, 59]).2 = ([49], 0) := by kernel_rfl
theorem lXy7 : Xy7.show = [111, 107, 61, 51, 32, 98, 97, 100, 61, 57, 57, 32, 101, 114, 114, 61, 49, 32, 105, 110, 116, 61, 48, 32, 124, 32, 98, 97, 108, 61, 57, 57, 44, 49, 48, 49, 44, 49, 48, 48, 44, 49, 48, 48, 44, 32, 117, 110, 100, 111, 110, 101, 61, 48, 32, 124, 32, 111, 112, 101, 110, 61, 48, 48, 48, 48, 32, 103, 101, 110, 61, 51, 51, 48, 48, 32, 116, 114, 97, 99, 101, 61, 65, 49, 65, 48, 82, 48, 82, 49] := by kernel_rfl
def Xy8 : V.Gt := (Xy7.serve [65]).1
theorem eXy7 : (Xy7.serve [65]).2 = ([52, 48, 48], 0) := by kernel_rfl
theorem lXy8 : Xy8.show = [111, 107, 61, 52, 32, 98, 97, 100, 61, 57, 57, 32, 101, 114, 114, 61, 49, 32, 105, 110, 116, 61, 48, 32, 124, 32, 98, 97, 108, 61, 57, 57, 44, 49, 48, 49, 44, 49, 48, 48, 44, 49, 48, 48, 44, 32, 117, 110, 100, 111, 110, 101, 61, 48, 32, 124, 32, 111, 112, 101, 110, 61, 48, 48, 48, 48, 32, 103, 101, 110, 61, 48, 48, 49, 49, 32, 116, 114, 97, 99, 101, 61, 65, 48, 82, 48, 65, 49, 82, 49, 65, 50, 82, 50, 65, 51, 82, 51] := by kernel_rfl
def Xz0 : V.Gt := ⟨V.Gt.fresh.c, { V.Gt.fresh.d with t := (V.Tb.fresh.acq 2).1 }⟩
def Xz1 : V.Gt := (Xz0.serve [65]).1
theorem eXz0 : (Xz0.serve [65]).2 = ([], 4) := by kernel_rfl
theorem lXz1 : Xz1.show = [111, 107, 61, 48, 32, 98, 97, 100, 61, 48, 32, 101, 114, 114, 61, 49, 32, 105, 110, 116, 61, 48, 32, 124, 32, 98, 97, 108, 61, 49, 48, 48, 44, 49, 48, 48, 44, 49, 48, 48, 44, 49, 48, 48, 44, 32, 117, 110, 100, 111, 110, 101, 61, 48, 32, 124, 32, 111, 112, 101, 110, 61, 48, 48, 49, 48, 32, 103, 101, 110, 61, 49, 49, 48, 48, 32, 116, 114, 97, 99, 101, 61, 65, 48, 82, 48, 65, 49, 82, 49] := by kernel_rfl
def Xz2 : V.Gt := (Xz1.serve [66, 50]).1
theorem eXz1 : (Xz1.serve [66, 50]).2 = ([], 4) := by kernel_rfl
def Xz3 : V.Gt := (Xz2.serve [88, 48, 49, 49, 59, 48, 50, 49, 59]).1
theorem eXz2 : (Xz2.serve [88, 48, 49, 49, 59, 48, 50, 49, 59]).2 = ([35, 49], 4) := by kernel_rfl
theorem lXz3 : Xz3.show = [111, 107, 61, 48, 32, 98, 97, 100, 61, 48, 32, 101, 114, 114, 61, 51, 32, 105, 110, 116, 61, 48, 32, 124, 32, 98, 97, 108, 61, 49, 48, 48, 44, 49, 48, 48, 44, 49, 48, 48, 44, 49, 48, 48, 44, 32, 117, 110, 100, 111, 110, 101, 61, 49, 32, 124, 32, 111, 112, 101, 110, 61, 48, 48, 49, 48, 32, 103, 101, 110, 61, 50, 50, 48, 48, 32, 116, 114, 97, 99, 101, 61, 65, 48, 65, 49, 82, 49, 82, 48] := by kernel_rfl
def Xz4 : V.Gt := (Xz3.serve [84, 48, 50, 49]).1
theorem eXz3 : (Xz3.serve [84, 48, 50, 49]).2 = ([], 4) := by kernel_rfl
theorem lXz4 : Xz4.show = [111, 107, 61, 48, 32, 98, 97, 100, 61, 48, 32, 101, 114, 114, 61, 52, 32, 105, 110, 116, 61, 48, 32, 124, 32, 98, 97, 108, 61, 49, 48, 48, 44, 49, 48, 48, 44, 49, 48, 48, 44, 49, 48, 48, 44, 32, 117, 110, 100, 111, 110, 101, 61, 49, 32, 124, 32, 111, 112, 101, 110, 61, 48, 48, 49, 48, 32, 103, 101, 110, 61, 51, 50, 48, 48, 32, 116, 114, 97, 99, 101, 61, 65, 48, 82, 48] := by kernel_rfl
def Xz5 : V.Gt := (Xz4.serve [83, 50, 48]).1
theorem eXz4 : (Xz4.serve [83, 50, 48]).2 = ([], 4) := by kernel_rfl
def Xz6 : V.Gt := ⟨Xz5.c, { Xz5.d with t := (Xz5.d.t.rel 2).1 }⟩
theorem dXz5 : Xz6.d.audit = 400 := by kernel_rfl
def Xz7 : V.Gt := (Xz6.serve [66, 50]).1
theorem eXz6 : (Xz6.serve [66, 50]).2 = ([49, 48, 48], 0) := by kernel_rfl
theorem lXz7 : Xz7.show = [111, 107, 61, 49, 32, 98, 97, 100, 61, 48, 32, 101, 114, 114, 61, 53, 32, 105, 110, 116, 61, 48, 32, 124, 32, 98, 97, 108, 61, 49, 48, 48, 44, 49, 48, 48, 44, 49, 48, 48, 44, 49, 48, 48, 44, 32, 117, 110, 100, 111, 110, 101, 61, 49, 32, 124, 32, 111, 112, 101, 110, 61, 48, 48, 48, 48, 32, 103, 101, 110, 61, 51, 50, 50, 48, 32, 116, 114, 97, 99, 101, 61, 65, 50, 82, 50] := by kernel_rfl
def Xu0 : V.Gt := V.Gt.fresh
def Xu1 : V.Gt := (Xu0.serve [84, 48, 49, 51, 48, 48]).1
theorem eXu0 : (Xu0.serve [84, 48, 49, 51, 48, 48]).2 = ([], 6) := by kernel_rfl
def Xu2 : V.Gt := (Xu1.serve [84, 48, 49, 48, 48, 55]).1
theorem eXu1 : (Xu1.serve [84, 48, 49, 48, 48, 55]).2 = ([57, 51], 0) := by kernel_rfl
def Xu3 : V.Gt := (Xu2.serve [116, 48, 49, 51, 48]).1
theorem eXu2 : (Xu2.serve [116, 48, 49, 51, 48]).2 = ([64, 48], 8) := by kernel_rfl
def Xu4 : V.Gt := (Xu3.serve [84, 50, 51, 49]).1
theorem eXu3 : (Xu3.serve [84, 50, 51, 49]).2 = ([57, 57], 0) := by kernel_rfl
theorem lXu4 : Xu4.show = [111, 107, 61, 50, 32, 98, 97, 100, 61, 49, 32, 101, 114, 114, 61, 49, 32, 105, 110, 116, 61, 48, 32, 124, 32, 98, 97, 108, 61, 57, 51, 44, 49, 48, 55, 44, 57, 57, 44, 49, 48, 49, 44, 32, 117, 110, 100, 111, 110, 101, 61, 48, 32, 124, 32, 111, 112, 101, 110, 61, 48, 48, 48, 48, 32, 103, 101, 110, 61, 50, 50, 49, 49, 32, 116, 114, 97, 99, 101, 61, 65, 50, 65, 51, 82, 51, 82, 50] := by kernel_rfl
def Xu5 : V.Gt := (Xu4.serve [84, 50, 49, 57, 57]).1
theorem eXu4 : (Xu4.serve [84, 50, 49, 57, 57]).2 = ([48], 0) := by kernel_rfl
def Xu6 : V.Gt := (Xu5.serve [88, 48, 49, 53, 48, 59]).1
theorem eXu5 : (Xu5.serve [88, 48, 49, 53, 48, 59]).2 = ([35, 48], 7) := by kernel_rfl
theorem lXu6 : Xu6.show = [111, 107, 61, 51, 32, 98, 97, 100, 61, 49, 32, 101, 114, 114, 61, 50, 32, 105, 110, 116, 61, 48, 32, 124, 32, 98, 97, 108, 61, 57, 51, 44, 50, 48, 54, 44, 48, 44, 49, 48, 49, 44, 32, 117, 110, 100, 111, 110, 101, 61, 49, 32, 124, 32, 111, 112, 101, 110, 61, 48, 48, 48, 48, 32, 103, 101, 110, 61, 51, 48, 50, 49, 32, 116, 114, 97, 99, 101, 61, 65, 48, 65, 49, 82, 49, 82, 48] := by kernel_rfl
def Xu7 : V.Gt := (Xu6.serve [88, 48, 49, 57, 57, 59]).1
theorem eXu6 : (Xu6.serve [88, 48, 49, 57, 57, 59]).2 = ([35, 48], 6) := by kernel_rfl
theorem lXu7 : Xu7.show = [111, 107, 61, 51, 32, 98, 97, 100, 61, 49, 32, 101, 114, 114, 61, 51, 32, 105, 110, 116, 61, 48, 32, 124, 32, 98, 97, 108, 61, 57, 51, 44, 50, 48, 54, 44, 48, 44, 49, 48, 49, 44, 32, 117, 110, 100, 111, 110, 101, 61, 49, 32, 124, 32, 111, 112, 101, 110, 61, 48, 48, 48, 48, 32, 103, 101, 110, 61, 48, 49, 50, 49, 32, 116, 114, 97, 99, 101, 61, 65, 48, 65, 49, 82, 49, 82, 48] := by kernel_rfl
def Xu8 : V.Gt := (Xu7.serve [88, 48, 51, 49, 59, 51, 48, 49, 59, 48, 49, 57, 57, 59]).1
theorem eXu7 : (Xu7.serve [88, 48, 51, 49, 59, 51, 48, 49, 59, 48, 49, 57, 57, 59]).2 = ([35, 50], 6) := by kernel_rfl
theorem lXu8 : Xu8.show = [111, 107, 61, 51, 32, 98, 97, 100, 61, 49, 32, 101, 114, 114, 61, 52, 32, 105, 110, 116, 61, 48, 32, 124, 32, 98, 97, 108, 61, 57, 51, 44, 50, 48, 54, 44, 48, 44, 49, 48, 49, 44, 32, 117, 110, 100, 111, 110, 101, 61, 50, 32, 124, 32, 111, 112, 101, 110, 61, 48, 48, 48, 48, 32, 103, 101, 110, 61, 49, 50, 50, 50, 32, 116, 114, 97, 99, 101, 61, 65, 48, 65, 51, 65, 49, 82, 49, 82, 51, 82, 48] := by kernel_rfl
def Xu9 : V.Gt := (Xu8.serve [88, 48, 51, 49, 59, 50, 50, 49, 59]).1
theorem eXu8 : (Xu8.serve [88, 48, 51, 49, 59, 50, 50, 49, 59]).2 = ([35, 49], 3) := by kernel_rfl
theorem lXu9 : Xu9.show = [111, 107, 61, 51, 32, 98, 97, 100, 61, 49, 32, 101, 114, 114, 61, 53, 32, 105, 110, 116, 61, 48, 32, 124, 32, 98, 97, 108, 61, 57, 51, 44, 50, 48, 54, 44, 48, 44, 49, 48, 49, 44, 32, 117, 110, 100, 111, 110, 101, 61, 51, 32, 124, 32, 111, 112, 101, 110, 61, 48, 48, 48, 48, 32, 103, 101, 110, 61, 50, 50, 50, 51, 32, 116, 114, 97, 99, 101, 61, 65, 48, 65, 51, 82, 51, 82, 48] := by kernel_rfl
def Xu10 : V.Gt := (Xu9.serve [88, 48, 49, 49, 59, 48, 49, 59]).1
theorem eXu9 : (Xu9.serve [88, 48, 49, 49, 59, 48, 49, 59]).2 = ([64, 55], 8) := by kernel_rfl
def Xu11 : V.Gt := (Xu10.serve [83, 49, 57]).1
theorem eXu10 : (Xu10.serve [83, 49, 57]).2 = ([50, 50], 0) := by kernel_rfl
def Xu12 : V.Gt := (Xu11.serve [66, 52]).1
theorem eXu11 : (Xu11.serve [66, 52]).2 = ([], 2) := by kernel_rfl
theorem lXu12 : Xu12.show = [111, 107, 61, 52, 32, 98, 97, 100, 61, 50, 32, 101, 114, 114, 61, 54, 32, 105, 110, 116, 61, 48, 32, 124, 32, 98, 97, 108, 61, 57, 51, 44, 50, 48, 54, 44, 48, 44, 49, 48, 49, 44, 32, 117, 110, 100, 111, 110, 101, 61, 51, 32, 124, 32, 111, 112, 101, 110, 61, 48, 48, 48, 48, 32, 103, 101, 110, 61, 50, 51, 50, 51, 32, 116, 114, 97, 99, 101, 61] := by kernel_rfl
def Xu13 : V.Gt := (Xu12.serve [88, 48, 51, 48, 59]).1
theorem eXu12 : (Xu12.serve [88, 48, 51, 48, 59]).2 = ([35, 48], 2) := by kernel_rfl
theorem lXu13 : Xu13.show = [111, 107, 61, 52, 32, 98, 97, 100, 61, 50, 32, 101, 114, 114, 61, 55, 32, 105, 110, 116, 61, 48, 32, 124, 32, 98, 97, 108, 61, 57, 51, 44, 50, 48, 54, 44, 48, 44, 49, 48, 49, 44, 32, 117, 110, 100, 111, 110, 101, 61, 51, 32, 124, 32, 111, 112, 101, 110, 61, 48, 48, 48, 48, 32, 103, 101, 110, 61, 50, 51, 50, 51, 32, 116, 114, 97, 99, 101, 61] := by kernel_rfl
def loopU : Nat → V.Gt
  | 0 => Xu13
  | k + 1 => ((loopU k).serve [88, 48, 49, 53, 48, 59]).1
theorem loopU_all : (List.range 101).all (fun i => decide (((loopU i).serve [88, 48, 49, 53, 48, 59]).2 = ([35, 48], 7))) = true := by kernel_rfl
theorem loopU_eq (i : Nat) (hi : i < 101) : ((loopU i).serve [88, 48, 49, 53, 48, 59]).2 = ([35, 48], 7) := by
  have := List.all_eq_true.mp loopU_all i (List.mem_range.mpr hi)
  simpa using this
def Xu14 : V.Gt := loopU 101
theorem lXu14 : Xu14.show = [111, 107, 61, 52, 32, 98, 97, 100, 61, 50, 32, 101, 114, 114, 61, 57, 57, 32, 105, 110, 116, 61, 48, 32, 124, 32, 98, 97, 108, 61, 57, 51, 44, 50, 48, 54, 44, 48, 44, 49, 48, 49, 44, 32, 117, 110, 100, 111, 110, 101, 61, 57, 57, 32, 124, 32, 111, 112, 101, 110, 61, 48, 48, 48, 48, 32, 103, 101, 110, 61, 51, 48, 50, 51, 32, 116, 114, 97, 99, 101, 61, 65, 48, 65, 49, 82, 49, 82, 48] := by kernel_rfl
def Xu15 : V.Gt := (Xu14.serve [84, 48, 51, 48, 49, 48]).1
theorem eXu14 : (Xu14.serve [84, 48, 51, 48, 49, 48]).2 = ([56, 51], 0) := by kernel_rfl
def Xu16 : V.Gt := (Xu15.serve [84, 48, 51, 48, 48, 48, 49]).1
theorem eXu15 : (Xu15.serve [84, 48, 51, 48, 48, 48, 49]).2 = ([64, 54], 8) := by kernel_rfl
def Xu17 : V.Gt := (Xu16.serve [84, 48, 51, 53, 49, 51]).1
theorem eXu16 : (Xu16.serve [84, 48, 51, 53, 49, 51]).2 = ([], 6) := by kernel_rfl
theorem lXu17 : Xu17.show = [111, 107, 61, 53, 32, 98, 97, 100, 61, 51, 32, 101, 114, 114, 61, 57, 57, 32, 105, 110, 116, 61, 48, 32, 124, 32, 98, 97, 108, 61, 56, 51, 44, 50, 48, 54, 44, 48, 44, 49, 49, 49, 44, 32, 117, 110, 100, 111, 110, 101, 61, 57, 57, 32, 124, 32, 111, 112, 101, 110, 61, 48, 48, 48, 48, 32, 103, 101, 110, 61, 49, 48, 50, 49, 32, 116, 114, 97, 99, 101, 61, 65, 48, 65, 51, 82, 51, 82, 48] := by kernel_rfl

set_option maxHeartbeats 2000000 in
set_option maxRecDepth 100000 in
theorem factsUpTo (w : World) :
    Calls Try.prog 15 #[] w fun e w' => e = .returned (.int .i64 (-1)) ∧ Fr [] w w' := by
  go_enter Try.func15, Try.ntmps15
  go_wp2_with fail
  refine (ground_calls _).mono ?_
  rintro e w1 ⟨D, T, C, R, B, L, rfl, h1, f1, s1⟩
  have H1 : Hid (LdAt w1 D T C R B L V.Ld.fresh) := h1
  have F1 : Hid (Fr [] w w1) := f1
  have HS : Hid (∀ x ∈ [D, T, C, R, B, L], w.heap.size ≤ x) := s1
  clear h1 f1 s1
  go_wp2_with (go_at_call 17; refine (gnew_calls D T C R B L V.Ld.fresh _ (H1.out.keep (X := []) ((Fr.refl _ _).alloc _) (by simp))).mono ?_)
  rintro e w2 ⟨G, rfl, h2, f2, s2⟩
  have HK : Hid (GtAt w2 G D T C R B L Xx0) := h2
  have HF : Hid (Fr [] w w2) := ((F1.out.alloc _)).trans f2 (by simp)
  have HG : Hid (∀ x ∈ [G, D, T, C, R, B, L], w.heap.size ≤ x) := by have := F1.out.size; simp at s2; have := HS.out; simp at this; show ∀ x ∈ _, _ ≤ _; simp; omega
  clear h2 f2 s2 H1 F1 HS
  go_wp2_with fail
  refine (fact_calls G D T C R B L Xx0 [66, 48] [49, 48, 48] 0 _ HK.out (by decide) eXx0).mono ?_
  rintro x wn ⟨rfl, h3, f3⟩
  replace HK : Hid (GtAt wn G D T C R B L Xx1) := h3
  replace HF : Hid (Fr [] w wn) := HF.out.trans f3 (fun x hx hm => by have := HG.out x hm; omega)
  clear h3 f3
  go_wp2_with fail
  refine (fact_calls G D T C R B L Xx1 [84, 48, 49, 51, 48] [55, 48] 0 _ HK.out (by decide) eXx1).mono ?_
  rintro x wn ⟨rfl, h3, f3⟩
  replace HK : Hid (GtAt wn G D T C R B L Xx2) := h3
  replace HF : Hid (Fr [] w wn) := HF.out.trans f3 (fun x hx hm => by have := HG.out x hm; omega)
  clear h3 f3
  go_wp2_with fail
  refine (fact_calls G D T C R B L Xx2 [66, 49] [49, 51, 48] 0 _ HK.out (by decide) eXx2).mono ?_
  rintro x wn ⟨rfl, h3, f3⟩
  replace HK : Hid (GtAt wn G D T C R B L Xx3) := h3
  replace HF : Hid (Fr [] w wn) := HF.out.trans f3 (fun x hx hm => by have := HG.out x hm; omega)
  clear h3 f3
  go_wp2_with fail
  refine (fact_calls G D T C R B L Xx3 [66, 48] [55, 48] 0 _ HK.out (by decide) eXx3).mono ?_
  rintro x wn ⟨rfl, h3, f3⟩
  replace HK : Hid (GtAt wn G D T C R B L Xx4) := h3
  replace HF : Hid (Fr [] w wn) := HF.out.trans f3 (fun x hx hm => by have := HG.out x hm; omega)
  clear h3 f3
  go_wp2_with fail
  refine (fact_calls G D T C R B L Xx4 [65] [52, 48, 48] 0 _ HK.out (by decide) eXx4).mono ?_
  rintro x wn ⟨rfl, h3, f3⟩
  replace HK : Hid (GtAt wn G D T C R B L Xx5) := h3
  replace HF : Hid (Fr [] w wn) := HF.out.trans f3 (fun x hx hm => by have := HG.out x hm; omega)
  clear h3 f3
  go_wp2_with fail
  refine (fact_calls G D T C R B L Xx5 [78, 50] [99, 121, 100] 0 _ HK.out (by decide) eXx5).mono ?_
  rintro x wn ⟨rfl, h3, f3⟩
  replace HK : Hid (GtAt wn G D T C R B L Xx6) := h3
  replace HF : Hid (Fr [] w wn) := HF.out.trans f3 (fun x hx hm => by have := HG.out x hm; omega)
  clear h3 f3
  go_wp2_with fail
  refine (fact_calls G D T C R B L Xx6 [83, 48, 51] [50, 51] 0 _ HK.out (by decide) eXx6).mono ?_
  rintro x wn ⟨rfl, h3, f3⟩
  replace HK : Hid (GtAt wn G D T C R B L Xx7) := h3
  replace HF : Hid (Fr [] w wn) := HF.out.trans f3 (fun x hx hm => by have := HG.out x hm; omega)
  clear h3 f3
  go_wp2_with fail
  refine (fact_calls G D T C R B L Xx7 [88, 48, 49, 49, 48, 59, 49, 50, 50, 48, 59] [50] 0 _ HK.out (by decide) eXx7).mono ?_
  rintro x wn ⟨rfl, h3, f3⟩
  replace HK : Hid (GtAt wn G D T C R B L Xx8) := h3
  replace HF : Hid (Fr [] w wn) := HF.out.trans f3 (fun x hx hm => by have := HG.out x hm; omega)
  clear h3 f3
  go_wp2_with fail
  refine (fact_calls G D T C R B L Xx8 [66, 48] [54, 48] 0 _ HK.out (by decide) eXx8).mono ?_
  rintro x wn ⟨rfl, h3, f3⟩
  replace HK : Hid (GtAt wn G D T C R B L Xx9) := h3
  replace HF : Hid (Fr [] w wn) := HF.out.trans f3 (fun x hx hm => by have := HG.out x hm; omega)
  clear h3 f3
  go_wp2_with fail
  refine (fact_calls G D T C R B L Xx9 [66, 49] [49, 50, 48] 0 _ HK.out (by decide) eXx9).mono ?_
  rintro x wn ⟨rfl, h3, f3⟩
  replace HK : Hid (GtAt wn G D T C R B L Xx10) := h3
  replace HF : Hid (Fr [] w wn) := HF.out.trans f3 (fun x hx hm => by have := HG.out x hm; omega)
  clear h3 f3
  go_wp2_with fail
  refine (fact_calls G D T C R B L Xx10 [66, 50] [49, 50, 48] 0 _ HK.out (by decide) eXx10).mono ?_
  rintro x wn ⟨rfl, h3, f3⟩
  replace HK : Hid (GtAt wn G D T C R B L Xx11) := h3
  replace HF : Hid (Fr [] w wn) := HF.out.trans f3 (fun x hx hm => by have := HG.out x hm; omega)
  clear h3 f3
  go_wp2_with fail
  refine (fact_calls G D T C R B L Xx11 [84, 48, 49, 57, 57, 57] [] 6 _ HK.out (by decide) eXx11).mono ?_
  rintro x wn ⟨rfl, h3, f3⟩
  replace HK : Hid (GtAt wn G D T C R B L Xx12) := h3
  replace HF : Hid (Fr [] w wn) := HF.out.trans f3 (fun x hx hm => by have := HG.out x hm; omega)
  clear h3 f3
  go_wp2_with fail
  refine (fact_calls G D T C R B L Xx12 [84, 49, 50, 49, 50, 48] [48] 0 _ HK.out (by decide) eXx12).mono ?_
  rintro x wn ⟨rfl, h3, f3⟩
  replace HK : Hid (GtAt wn G D T C R B L Xx13) := h3
  replace HF : Hid (Fr [] w wn) := HF.out.trans f3 (fun x hx hm => by have := HG.out x hm; omega)
  clear h3 f3
  go_wp2_with fail
  refine (fact_calls G D T C R B L Xx13 [84, 51, 50, 53, 48] [] 7 _ HK.out (by decide) eXx13).mono ?_
  rintro x wn ⟨rfl, h3, f3⟩
  replace HK : Hid (GtAt wn G D T C R B L Xx14) := h3
  replace HF : Hid (Fr [] w wn) := HF.out.trans f3 (fun x hx hm => by have := HG.out x hm; omega)
  clear h3 f3
  go_wp2_with fail
  refine (fact_calls G D T C R B L Xx14 [66, 51] [49, 48, 48] 0 _ HK.out (by decide) eXx14).mono ?_
  rintro x wn ⟨rfl, h3, f3⟩
  replace HK : Hid (GtAt wn G D T C R B L Xx15) := h3
  replace HF : Hid (Fr [] w wn) := HF.out.trans f3 (fun x hx hm => by have := HG.out x hm; omega)
  clear h3 f3
  go_wp2_with fail
  refine (fact_calls G D T C R B L Xx15 [66, 50] [50, 52, 48] 0 _ HK.out (by decide) eXx15).mono ?_
  rintro x wn ⟨rfl, h3, f3⟩
  replace HK : Hid (GtAt wn G D T C R B L Xx16) := h3
  replace HF : Hid (Fr [] w wn) := HF.out.trans f3 (fun x hx hm => by have := HG.out x hm; omega)
  clear h3 f3
  go_wp2_with fail
  refine (fact_calls G D T C R B L Xx16 [84, 48, 48, 49] [] 3 _ HK.out (by decide) eXx16).mono ?_
  rintro x wn ⟨rfl, h3, f3⟩
  replace HK : Hid (GtAt wn G D T C R B L Xx17) := h3
  replace HF : Hid (Fr [] w wn) := HF.out.trans f3 (fun x hx hm => by have := HG.out x hm; omega)
  clear h3 f3
  go_wp2_with fail
  refine (fact_calls G D T C R B L Xx17 [84, 48, 53, 48] [] 2 _ HK.out (by decide) eXx17).mono ?_
  rintro x wn ⟨rfl, h3, f3⟩
  replace HK : Hid (GtAt wn G D T C R B L Xx18) := h3
  replace HF : Hid (Fr [] w wn) := HF.out.trans f3 (fun x hx hm => by have := HG.out x hm; omega)
  clear h3 f3
  go_wp2_with fail
  refine (fact_calls G D T C R B L Xx18 [88, 48, 49, 49, 48, 59, 48, 51, 57, 57, 57, 59] [35, 49] 6 _ HK.out (by decide) eXx18).mono ?_
  rintro x wn ⟨rfl, h3, f3⟩
  replace HK : Hid (GtAt wn G D T C R B L Xx19) := h3
  replace HF : Hid (Fr [] w wn) := HF.out.trans f3 (fun x hx hm => by have := HG.out x hm; omega)
  clear h3 f3
  go_wp2_with fail
  refine (fact_calls G D T C R B L Xx19 [66, 48] [54, 48] 0 _ HK.out (by decide) eXx19).mono ?_
  rintro x wn ⟨rfl, h3, f3⟩
  replace HK : Hid (GtAt wn G D T C R B L Xx20) := h3
  replace HF : Hid (Fr [] w wn) := HF.out.trans f3 (fun x hx hm => by have := HG.out x hm; omega)
  clear h3 f3
  go_wp2_with fail
  refine (fact_calls G D T C R B L Xx20 [66, 49] [48] 0 _ HK.out (by decide) eXx20).mono ?_
  rintro x wn ⟨rfl, h3, f3⟩
  replace HK : Hid (GtAt wn G D T C R B L Xx21) := h3
  replace HF : Hid (Fr [] w wn) := HF.out.trans f3 (fun x hx hm => by have := HG.out x hm; omega)
  clear h3 f3
  go_wp2_with fail
  refine (fact_calls G D T C R B L Xx21 [88, 48, 49, 49, 59, 48, 49, 49, 59, 48, 49, 49, 59, 48, 49, 49, 59] [35, 48] 1 _ HK.out (by decide) eXx21).mono ?_
  rintro x wn ⟨rfl, h3, f3⟩
  replace HK : Hid (GtAt wn G D T C R B L Xx22) := h3
  replace HF : Hid (Fr [] w wn) := HF.out.trans f3 (fun x hx hm => by have := HG.out x hm; omega)
  clear h3 f3
  go_wp2_with fail
  refine (fact_calls G D T C R B L Xx22 [83, 48, 48] [] 9 _ HK.out (by decide) eXx22).mono ?_
  rintro x wn ⟨rfl, h3, f3⟩
  replace HK : Hid (GtAt wn G D T C R B L Xx23) := h3
  replace HF : Hid (Fr [] w wn) := HF.out.trans f3 (fun x hx hm => by have := HG.out x hm; omega)
  clear h3 f3
  go_wp2_with fail
  refine (fact_calls G D T C R B L Xx23 [83, 57, 48] [] 2 _ HK.out (by decide) eXx23).mono ?_
  rintro x wn ⟨rfl, h3, f3⟩
  replace HK : Hid (GtAt wn G D T C R B L Xx24) := h3
  replace HF : Hid (Fr [] w wn) := HF.out.trans f3 (fun x hx hm => by have := HG.out x hm; omega)
  clear h3 f3
  go_wp2_with fail
  refine (fact_calls G D T C R B L Xx24 [78, 52] [] 9 _ HK.out (by decide) eXx24).mono ?_
  rintro x wn ⟨rfl, h3, f3⟩
  replace HK : Hid (GtAt wn G D T C R B L Xx25) := h3
  replace HF : Hid (Fr [] w wn) := HF.out.trans f3 (fun x hx hm => by have := HG.out x hm; omega)
  clear h3 f3
  go_wp2_with fail
  refine (fact_calls G D T C R B L Xx25 [] [64, 48] 8 _ HK.out (by decide) eXx25).mono ?_
  rintro x wn ⟨rfl, h3, f3⟩
  replace HK : Hid (GtAt wn G D T C R B L Xx26) := h3
  replace HF : Hid (Fr [] w wn) := HF.out.trans f3 (fun x hx hm => by have := HG.out x hm; omega)
  clear h3 f3
  go_wp2_with fail
  refine (fact_calls G D T C R B L Xx26 [90] [64, 48] 8 _ HK.out (by decide) eXx26).mono ?_
  rintro x wn ⟨rfl, h3, f3⟩
  replace HK : Hid (GtAt wn G D T C R B L Xx27) := h3
  replace HF : Hid (Fr [] w wn) := HF.out.trans f3 (fun x hx hm => by have := HG.out x hm; omega)
  clear h3 f3
  go_wp2_with fail
  refine (fact_calls G D T C R B L Xx27 [84, 48] [64, 50] 8 _ HK.out (by decide) eXx27).mono ?_
  rintro x wn ⟨rfl, h3, f3⟩
  replace HK : Hid (GtAt wn G D T C R B L Xx28) := h3
  replace HF : Hid (Fr [] w wn) := HF.out.trans f3 (fun x hx hm => by have := HG.out x hm; omega)
  clear h3 f3
  go_wp2_with fail
  refine (fact_calls G D T C R B L Xx28 [66, 48, 120] [64, 50] 8 _ HK.out (by decide) eXx28).mono ?_
  rintro x wn ⟨rfl, h3, f3⟩
  replace HK : Hid (GtAt wn G D T C R B L Xx29) := h3
  replace HF : Hid (Fr [] w wn) := HF.out.trans f3 (fun x hx hm => by have := HG.out x hm; omega)
  clear h3 f3
  go_wp2_with fail
  refine (fact_calls G D T C R B L Xx29 [84, 48, 49, 49, 50, 51, 52] [64, 54] 8 _ HK.out (by decide) eXx29).mono ?_
  rintro x wn ⟨rfl, h3, f3⟩
  replace HK : Hid (GtAt wn G D T C R B L Xx30) := h3
  replace HF : Hid (Fr [] w wn) := HF.out.trans f3 (fun x hx hm => by have := HG.out x hm; omega)
  clear h3 f3
  go_wp2_with fail
  refine (fact_calls G D T C R B L Xx30 [88, 48, 49, 49] [64, 52] 8 _ HK.out (by decide) eXx30).mono ?_
  rintro x wn ⟨rfl, h3, f3⟩
  replace HK : Hid (GtAt wn G D T C R B L Xx31) := h3
  replace HF : Hid (Fr [] w wn) := HF.out.trans f3 (fun x hx hm => by have := HG.out x hm; omega)
  clear h3 f3
  go_wp2_with fail
  refine (fact_calls G D T C R B L Xx31 [65, 65, 65, 65, 65, 65, 65, 65, 65, 65, 65, 65, 65, 65, 65, 65, 65, 65, 65, 65, 65] [] 1 _ HK.out (by decide) eXx31).mono ?_
  rintro x wn ⟨rfl, h3, f3⟩
  replace HK : Hid (GtAt wn G D T C R B L Xx32) := h3
  replace HF : Hid (Fr [] w wn) := HF.out.trans f3 (fun x hx hm => by have := HG.out x hm; omega)
  clear h3 f3
  go_wp2_with fail
  refine (fact_calls G D T C R B L Xx32 [84, 48, 49, 48] [] 2 _ HK.out (by decide) eXx32).mono ?_
  rintro x wn ⟨rfl, h3, f3⟩
  replace HK : Hid (GtAt wn G D T C R B L Xx33) := h3
  replace HF : Hid (Fr [] w wn) := HF.out.trans f3 (fun x hx hm => by have := HG.out x hm; omega)
  clear h3 f3
  go_wp2_with fail
  refine (fact_calls G D T C R B L Xx33 [84, 57, 57, 49] [] 2 _ HK.out (by decide) eXx33).mono ?_
  rintro x wn ⟨rfl, h3, f3⟩
  replace HK : Hid (GtAt wn G D T C R B L Xx34) := h3
  replace HF : Hid (Fr [] w wn) := HF.out.trans f3 (fun x hx hm => by have := HG.out x hm; omega)
  clear h3 f3
  go_wp2_with fail
  refine (fact_calls G D T C R B L Xx34 [84, 49, 50, 57, 57] [] 6 _ HK.out (by decide) eXx34).mono ?_
  rintro x wn ⟨rfl, h3, f3⟩
  replace HK : Hid (GtAt wn G D T C R B L Xx35) := h3
  replace HF : Hid (Fr [] w wn) := HF.out.trans f3 (fun x hx hm => by have := HG.out x hm; omega)
  clear h3 f3
  go_wp2_with fail
  refine (fact_calls G D T C R B L Xx35 [65, 65, 65, 65, 65, 65, 65, 65, 65, 65, 65, 65, 65, 65, 65, 65, 65, 65, 65, 65] [64, 49] 8 _ HK.out (by decide) eXx35).mono ?_
  rintro x wn ⟨rfl, h3, f3⟩
  replace HK : Hid (GtAt wn G D T C R B L Xx36) := h3
  replace HF : Hid (Fr [] w wn) := HF.out.trans f3 (fun x hx hm => by have := HG.out x hm; omega)
  clear h3 f3
  go_wp2_with fail
  refine (fact_calls G D T C R B L Xx36 [78, 48] [97, 110, 110] 0 _ HK.out (by decide) eXx36).mono ?_
  rintro x wn ⟨rfl, h3, f3⟩
  replace HK : Hid (GtAt wn G D T C R B L Xx37) := h3
  replace HF : Hid (Fr [] w wn) := HF.out.trans f3 (fun x hx hm => by have := HG.out x hm; omega)
  clear h3 f3
  go_wp2_with fail
  refine (fact_calls G D T C R B L Xx37 [78, 49] [98, 111, 98] 0 _ HK.out (by decide) eXx37).mono ?_
  rintro x wn ⟨rfl, h3, f3⟩
  replace HK : Hid (GtAt wn G D T C R B L Xx38) := h3
  replace HF : Hid (Fr [] w wn) := HF.out.trans f3 (fun x hx hm => by have := HG.out x hm; omega)
  clear h3 f3
  go_wp2_with fail
  refine (fact_calls G D T C R B L Xx38 [88, 48, 49, 49, 120] [64, 52] 8 _ HK.out (by decide) eXx38).mono ?_
  rintro x wn ⟨rfl, h3, f3⟩
  replace HK : Hid (GtAt wn G D T C R B L Xx39) := h3
  replace HF : Hid (Fr [] w wn) := HF.out.trans f3 (fun x hx hm => by have := HG.out x hm; omega)
  clear h3 f3
  go_wp2_with fail
  refine (fact_calls G D T C R B L Xx39 [65] [52, 48, 48] 0 _ HK.out (by decide) eXx39).mono ?_
  rintro x wn ⟨rfl, h3, f3⟩
  replace HK : Hid (GtAt wn G D T C R B L Xx40) := h3
  replace HF : Hid (Fr [] w wn) := HF.out.trans f3 (fun x hx hm => by have := HG.out x hm; omega)
  clear h3 f3
  go_wp2_with fail
  refine (gshow_calls G D T C R B L Xx40 _ HK.out).mono ?_
  rintro x wn ⟨rfl, f3⟩
  replace HK : Hid (GtAt wn G D T C R B L Xx40) := ⟨HK.out.ct.keep f3 (by simp), HK.out.ld.keep f3 (by simp), HK.out.nG⟩
  replace HF : Hid (Fr [] w wn) := HF.out.trans f3 (by simp)
  clear f3
  obtain ⟨sx, es, hsz, hex⟩ := shwA
  rw [es]
  clear es
  go_wp2_with fail
  clear hsz hex
  clear HK HG
  refine (ground_calls _).mono ?_
  rintro e w1 ⟨D, T, C, R, B, L, rfl, h1, f1, s1⟩
  have H1 : Hid (LdAt w1 D T C R B L V.Ld.fresh) := h1
  have F1 : Hid (Fr [] w w1) := HF.out.trans f1 (by simp)
  have HS : Hid (∀ x ∈ [D, T, C, R, B, L], w.heap.size ≤ x) := by have a := HF.out.size; intro x hx; have := s1 x hx; omega
  clear h1 f1 s1
  go_wp2_with (go_at_call 17; refine (gnew_calls D T C R B L V.Ld.fresh _ (H1.out.keep (X := []) ((Fr.refl _ _).alloc _) (by simp))).mono ?_)
  rintro e w2 ⟨G, rfl, h2, f2, s2⟩
  have HK : Hid (GtAt w2 G D T C R B L loopY0) := h2
  replace HF : Hid (Fr [] w w2) := ((F1.out.alloc _)).trans f2 (by simp)
  have HG : Hid (∀ x ∈ [G, D, T, C, R, B, L], w.heap.size ≤ x) := by have := F1.out.size; simp at s2; have := HS.out; simp at this; show ∀ x ∈ _, _ ≤ _; simp; omega
  clear h2 f2 s2 H1 F1 HS
  go_wp2_with fail
  go_loopw [7] (fun i w' => ∃ k : Nat, k ≤ 100 ∧ i = .int .i64 k ∧ GtAt w' G D T C R B L (loopY k) ∧ Fr [] w w') (fun i _ => 100 - (intOf i).toNat)
  case atStart => exact ⟨0, by omega, rfl, HK.out, HF.out⟩
  case round =>
    obtain ⟨k, hk, rfl, hg, hf⟩ := hrel
    clear HK HF
    have HK : Hid (GtAt wr G D T C R B L (loopY k)) := hg
    have HF : Hid (Fr [] w wr) := hf
    clear hg hf
    by_cases hlt : k < 100
    · have hlt' : (k : Int) < 100 := by omega
      go_wp2_with (go_at_call 19; refine (serve_S G D T C R B L (loopY k) [] _ HK.out (by decide)).mono ?_)
      rintro x wn ⟨rfl, h3, f3⟩
      have H3 : Hid (GtAt wn G D T C R B L (loopY (k + 1))) := h3
      have F3 : Hid (Fr [] w wn) := HF.out.trans f3 (fun x hx hm => by have := HG.out x hm; omega)
      clear h3 f3
      go_wp2_with fail
      exact ⟨⟨k + 1, by omega, by simp, H3.out, F3.out⟩, by simp [intOf]; omega⟩
    · have hk4 : k = 100 := by omega
      subst hk4
      go_wp2_with fail
      refine (gshow_calls G D T C R B L Xy0 _ HK.out).mono ?_
      rintro x wn ⟨rfl, f3⟩
      replace HK : Hid (GtAt wn G D T C R B L Xy0) := ⟨HK.out.ct.keep f3 (by simp), HK.out.ld.keep f3 (by simp), HK.out.nG⟩
      replace HF : Hid (Fr [] w wn) := HF.out.trans f3 (by simp)
      clear f3
      obtain ⟨sx, es, hsz, hex⟩ := shwB
      rw [es]
      clear es
      go_wp2_with fail
      clear hsz hex
      refine (fact_calls G D T C R B L Xy0 [88, 48, 49, 49, 59, 48, 49, 49, 59, 48, 49, 49, 59] [51] 0 _ HK.out (by decide) eXy0).mono ?_
      rintro x wn ⟨rfl, h3, f3⟩
      replace HK : Hid (GtAt wn G D T C R B L Xy1) := h3
      replace HF : Hid (Fr [] w wn) := HF.out.trans f3 (fun x hx hm => by have := HG.out x hm; omega)
      clear h3 f3
      go_wp2_with fail
      refine (fact_calls G D T C R B L Xy1 [84, 48, 49, 58] [64, 51] 8 _ HK.out (by decide) eXy1).mono ?_
      rintro x wn ⟨rfl, h3, f3⟩
      replace HK : Hid (GtAt wn G D T C R B L Xy2) := h3
      replace HF : Hid (Fr [] w wn) := HF.out.trans f3 (fun x hx hm => by have := HG.out x hm; omega)
      clear h3 f3
      go_wp2_with fail
      refine (fact_calls G D T C R B L Xy2 [84, 48, 49, 47] [64, 51] 8 _ HK.out (by decide) eXy2).mono ?_
      rintro x wn ⟨rfl, h3, f3⟩
      replace HK : Hid (GtAt wn G D T C R B L Xy3) := h3
      replace HF : Hid (Fr [] w wn) := HF.out.trans f3 (fun x hx hm => by have := HG.out x hm; omega)
      clear h3 f3
      go_wp2_with fail
      refine (fact_calls G D T C R B L Xy3 [66, 58] [64, 49] 8 _ HK.out (by decide) eXy3).mono ?_
      rintro x wn ⟨rfl, h3, f3⟩
      replace HK : Hid (GtAt wn G D T C R B L Xy4) := h3
      replace HF : Hid (Fr [] w wn) := HF.out.trans f3 (fun x hx hm => by have := HG.out x hm; omega)
      clear h3 f3
      go_wp2_with fail
      refine (look_calls G D T C R B L Xy4 _ HK.out _ lXy4).mono ?_
      rintro x wn ⟨rfl, f3⟩
      replace HK : Hid (GtAt wn G D T C R B L Xy4) := ⟨HK.out.ct.keep f3 (by simp), HK.out.ld.keep f3 (by simp), HK.out.nG⟩
      replace HF : Hid (Fr [] w wn) := HF.out.trans f3 (by simp)
      clear f3
      go_wp2_with fail
      refine (fact_calls G D T C R B L Xy4 [84, 48, 49, 48] [] 2 _ HK.out (by decide) eXy4).mono ?_
      rintro x wn ⟨rfl, h3, f3⟩
      replace HK : Hid (GtAt wn G D T C R B L Xy5) := h3
      replace HF : Hid (Fr [] w wn) := HF.out.trans f3 (fun x hx hm => by have := HG.out x hm; omega)
      clear h3 f3
      go_wp2_with fail
      refine (look_calls G D T C R B L Xy5 _ HK.out _ lXy5).mono ?_
      rintro x wn ⟨rfl, f3⟩
      replace HK : Hid (GtAt wn G D T C R B L Xy5) := ⟨HK.out.ct.keep f3 (by simp), HK.out.ld.keep f3 (by simp), HK.out.nG⟩
      replace HF : Hid (Fr [] w wn) := HF.out.trans f3 (by simp)
      clear f3
      go_wp2_with fail
      refine (fact_calls G D T C R B L Xy5 [84, 49, 48, 49] [49, 48, 50] 0 _ HK.out (by decide) eXy5).mono ?_
      rintro x wn ⟨rfl, h3, f3⟩
      replace HK : Hid (GtAt wn G D T C R B L Xy6) := h3
      replace HF : Hid (Fr [] w wn) := HF.out.trans f3 (fun x hx hm => by have := HG.out x hm; omega)
      clear h3 f3
      go_wp2_with fail
      refine (look_calls G D T C R B L Xy6 _ HK.out _ lXy6).mono ?_
      rintro x wn ⟨rfl, f3⟩
      replace HK : Hid (GtAt wn G D T C R B L Xy6) := ⟨HK.out.ct.keep f3 (by simp), HK.out.ld.keep f3 (by simp), HK.out.nG⟩
      replace HF : Hid (Fr [] w wn) := HF.out.trans f3 (by simp)
      clear f3
      go_wp2_with fail
      refine (fact_calls G D T C R B L Xy6 [88, 49, 48, 49, 59] [49] 0 _ HK.out (by decide) eXy6).mono ?_
      rintro x wn ⟨rfl, h3, f3⟩
      replace HK : Hid (GtAt wn G D T C R B L Xy7) := h3
      replace HF : Hid (Fr [] w wn) := HF.out.trans f3 (fun x hx hm => by have := HG.out x hm; omega)
      clear h3 f3
      go_wp2_with fail
      refine (look_calls G D T C R B L Xy7 _ HK.out _ lXy7).mono ?_
      rintro x wn ⟨rfl, f3⟩
      replace HK : Hid (GtAt wn G D T C R B L Xy7) := ⟨HK.out.ct.keep f3 (by simp), HK.out.ld.keep f3 (by simp), HK.out.nG⟩
      replace HF : Hid (Fr [] w wn) := HF.out.trans f3 (by simp)
      clear f3
      go_wp2_with fail
      refine (fact_calls G D T C R B L Xy7 [65] [52, 48, 48] 0 _ HK.out (by decide) eXy7).mono ?_
      rintro x wn ⟨rfl, h3, f3⟩
      replace HK : Hid (GtAt wn G D T C R B L Xy8) := h3
      replace HF : Hid (Fr [] w wn) := HF.out.trans f3 (fun x hx hm => by have := HG.out x hm; omega)
      clear h3 f3
      go_wp2_with fail
      refine (look_calls G D T C R B L Xy8 _ HK.out _ lXy8).mono ?_
      rintro x wn ⟨rfl, f3⟩
      replace HK : Hid (GtAt wn G D T C R B L Xy8) := ⟨HK.out.ct.keep f3 (by simp), HK.out.ld.keep f3 (by simp), HK.out.nG⟩
      replace HF : Hid (Fr [] w wn) := HF.out.trans f3 (by simp)
      clear f3
      go_wp2_with fail
      clear HK HG
      refine (ground_calls _).mono ?_
      rintro e w1 ⟨D, T, C, R, B, L, rfl, h1, f1, s1⟩
      have H1 : Hid (LdAt w1 D T C R B L V.Ld.fresh) := h1
      have F1 : Hid (Fr [] w w1) := HF.out.trans f1 (by simp)
      have HS : Hid (∀ x ∈ [D, T, C, R, B, L], w.heap.size ≤ x) := by have a := HF.out.size; intro x hx; have := s1 x hx; omega
      clear h1 f1 s1
      go_wp2_with (go_at_call 17; refine (gnew_calls D T C R B L V.Ld.fresh _ (H1.out.keep (X := []) ((Fr.refl _ _).alloc _) (by simp))).mono ?_)
      rintro e w2 ⟨G, rfl, h2, f2, s2⟩
      have b0 := f2.cellv (b := w1.heap.size) (o := 0) (v := .pointer (some ⟨D, 0, none⟩)) (by simp [go_sem]) (by simp)
      have b1 := f2.cellv (b := w1.heap.size) (o := 1) (v := .pointer (some ⟨T, 0, none⟩)) (by simp [go_sem]) (by simp)
      have HZ : Hid (w1.heap.size ∉ [G, D, T, C, R, B, L]) := by
        have a1 := H1.out.bk.lD
        have a2 := H1.out.bk.lB
        have a3 := H1.out.bk.lL
        have a4 := H1.out.tb.lT
        have a5 := H1.out.tb.lC
        have a6 := H1.out.tb.lR
        simp at s2
        show _ ∉ _
        simp
        omega
      have HK : Hid (GtAt w2 G D T C R B L V.Gt.fresh) := h2
      replace HF : Hid (Fr [] w w2) := ((F1.out.alloc _)).trans f2 (by simp)
      have HG : Hid (∀ x ∈ [G, D, T, C, R, B, L], w.heap.size ≤ x) := by have := F1.out.size; simp at s2; have := HS.out; simp at this; show ∀ x ∈ _, _ ≤ _; simp; omega
      clear h2 f2 s2 H1 F1 HS
      go_wp2_with fail
      refine (grab_calls D T C R V.Tb.fresh 2 _ HK.out.ld.tb).mono ?_
      rintro x wn ⟨rfl, h3, f3⟩
      replace HK : Hid (GtAt wn G D T C R B L Xz0) := ⟨HK.out.ct.keep f3 (by have := HK.out.nG; simp at this ⊢; omega), ⟨HK.out.ld.bk.keepT HK.out.ld.sp f3, h3, HK.out.ld.sp, rfl⟩, HK.out.nG⟩
      replace HF : Hid (Fr [] w wn) := HF.out.trans f3 (fun x hx hm => by have := HG.out x (by simp at hm ⊢; omega); omega)
      replace b0 := f3.cellv b0 (by have := HZ.out; simp at this ⊢; omega)
      replace b1 := f3.cellv b1 (by have := HZ.out; simp at this ⊢; omega)
      have HB0 : Hid (wn.cell? ⟨w1.heap.size, 0, none⟩ = some (.pointer (some ⟨D, 0, none⟩))) := b0
      have HB1 : Hid (wn.cell? ⟨w1.heap.size, 1, none⟩ = some (.pointer (some ⟨T, 0, none⟩))) := b1
      rw [show (V.Tb.fresh.acq 2).2.1 = 2 by kernel_rfl]
      clear h3 f3 b0 b1
      go_wp2_with fail
      refine (fact_calls G D T C R B L Xz0 [65] [] 4 _ HK.out (by decide) eXz0).mono ?_
      rintro x wn ⟨rfl, h3, f3⟩
      replace HK : Hid (GtAt wn G D T C R B L Xz1) := h3
      replace HF : Hid (Fr [] w wn) := HF.out.trans f3 (fun x hx hm => by have := HG.out x hm; omega)
      replace HB0 : Hid (wn.cell? ⟨w1.heap.size, 0, none⟩ = some (.pointer (some ⟨D, 0, none⟩))) := f3.cellv HB0.out HZ.out
      replace HB1 : Hid (wn.cell? ⟨w1.heap.size, 1, none⟩ = some (.pointer (some ⟨T, 0, none⟩))) := f3.cellv HB1.out HZ.out
      clear h3 f3
      go_wp2_with fail
      refine (look_calls G D T C R B L Xz1 _ HK.out _ lXz1).mono ?_
      rintro x wn ⟨rfl, f3⟩
      replace HK : Hid (GtAt wn G D T C R B L Xz1) := ⟨HK.out.ct.keep f3 (by simp), HK.out.ld.keep f3 (by simp), HK.out.nG⟩
      replace HF : Hid (Fr [] w wn) := HF.out.trans f3 (by simp)
      replace HB0 : Hid (wn.cell? ⟨w1.heap.size, 0, none⟩ = some (.pointer (some ⟨D, 0, none⟩))) := f3.cellv HB0.out (by simp)
      replace HB1 : Hid (wn.cell? ⟨w1.heap.size, 1, none⟩ = some (.pointer (some ⟨T, 0, none⟩))) := f3.cellv HB1.out (by simp)
      clear f3
      go_wp2_with fail
      refine (fact_calls G D T C R B L Xz1 [66, 50] [] 4 _ HK.out (by decide) eXz1).mono ?_
      rintro x wn ⟨rfl, h3, f3⟩
      replace HK : Hid (GtAt wn G D T C R B L Xz2) := h3
      replace HF : Hid (Fr [] w wn) := HF.out.trans f3 (fun x hx hm => by have := HG.out x hm; omega)
      replace HB0 : Hid (wn.cell? ⟨w1.heap.size, 0, none⟩ = some (.pointer (some ⟨D, 0, none⟩))) := f3.cellv HB0.out HZ.out
      replace HB1 : Hid (wn.cell? ⟨w1.heap.size, 1, none⟩ = some (.pointer (some ⟨T, 0, none⟩))) := f3.cellv HB1.out HZ.out
      clear h3 f3
      go_wp2_with fail
      refine (fact_calls G D T C R B L Xz2 [88, 48, 49, 49, 59, 48, 50, 49, 59] [35, 49] 4 _ HK.out (by decide) eXz2).mono ?_
      rintro x wn ⟨rfl, h3, f3⟩
      replace HK : Hid (GtAt wn G D T C R B L Xz3) := h3
      replace HF : Hid (Fr [] w wn) := HF.out.trans f3 (fun x hx hm => by have := HG.out x hm; omega)
      replace HB0 : Hid (wn.cell? ⟨w1.heap.size, 0, none⟩ = some (.pointer (some ⟨D, 0, none⟩))) := f3.cellv HB0.out HZ.out
      replace HB1 : Hid (wn.cell? ⟨w1.heap.size, 1, none⟩ = some (.pointer (some ⟨T, 0, none⟩))) := f3.cellv HB1.out HZ.out
      clear h3 f3
      go_wp2_with fail
      refine (look_calls G D T C R B L Xz3 _ HK.out _ lXz3).mono ?_
      rintro x wn ⟨rfl, f3⟩
      replace HK : Hid (GtAt wn G D T C R B L Xz3) := ⟨HK.out.ct.keep f3 (by simp), HK.out.ld.keep f3 (by simp), HK.out.nG⟩
      replace HF : Hid (Fr [] w wn) := HF.out.trans f3 (by simp)
      replace HB0 : Hid (wn.cell? ⟨w1.heap.size, 0, none⟩ = some (.pointer (some ⟨D, 0, none⟩))) := f3.cellv HB0.out (by simp)
      replace HB1 : Hid (wn.cell? ⟨w1.heap.size, 1, none⟩ = some (.pointer (some ⟨T, 0, none⟩))) := f3.cellv HB1.out (by simp)
      clear f3
      go_wp2_with fail
      refine (fact_calls G D T C R B L Xz3 [84, 48, 50, 49] [] 4 _ HK.out (by decide) eXz3).mono ?_
      rintro x wn ⟨rfl, h3, f3⟩
      replace HK : Hid (GtAt wn G D T C R B L Xz4) := h3
      replace HF : Hid (Fr [] w wn) := HF.out.trans f3 (fun x hx hm => by have := HG.out x hm; omega)
      replace HB0 : Hid (wn.cell? ⟨w1.heap.size, 0, none⟩ = some (.pointer (some ⟨D, 0, none⟩))) := f3.cellv HB0.out HZ.out
      replace HB1 : Hid (wn.cell? ⟨w1.heap.size, 1, none⟩ = some (.pointer (some ⟨T, 0, none⟩))) := f3.cellv HB1.out HZ.out
      clear h3 f3
      go_wp2_with fail
      refine (look_calls G D T C R B L Xz4 _ HK.out _ lXz4).mono ?_
      rintro x wn ⟨rfl, f3⟩
      replace HK : Hid (GtAt wn G D T C R B L Xz4) := ⟨HK.out.ct.keep f3 (by simp), HK.out.ld.keep f3 (by simp), HK.out.nG⟩
      replace HF : Hid (Fr [] w wn) := HF.out.trans f3 (by simp)
      replace HB0 : Hid (wn.cell? ⟨w1.heap.size, 0, none⟩ = some (.pointer (some ⟨D, 0, none⟩))) := f3.cellv HB0.out (by simp)
      replace HB1 : Hid (wn.cell? ⟨w1.heap.size, 1, none⟩ = some (.pointer (some ⟨T, 0, none⟩))) := f3.cellv HB1.out (by simp)
      clear f3
      go_wp2_with fail
      refine (fact_calls G D T C R B L Xz4 [83, 50, 48] [] 4 _ HK.out (by decide) eXz4).mono ?_
      rintro x wn ⟨rfl, h3, f3⟩
      replace HK : Hid (GtAt wn G D T C R B L Xz5) := h3
      replace HF : Hid (Fr [] w wn) := HF.out.trans f3 (fun x hx hm => by have := HG.out x hm; omega)
      replace HB0 : Hid (wn.cell? ⟨w1.heap.size, 0, none⟩ = some (.pointer (some ⟨D, 0, none⟩))) := f3.cellv HB0.out HZ.out
      replace HB1 : Hid (wn.cell? ⟨w1.heap.size, 1, none⟩ = some (.pointer (some ⟨T, 0, none⟩))) := f3.cellv HB1.out HZ.out
      clear h3 f3
      have b0 := HB0.out
      have b1 := HB1.out
      clear HB0 HB1
      go_wp2_with fail
      refine (drop_calls D T C R Xz5.d.t 2 _ HK.out.ld.tb).mono ?_
      rintro x wn ⟨rfl, h3, f3⟩
      replace HK : Hid (GtAt wn G D T C R B L Xz6) := ⟨HK.out.ct.keep f3 (by have := HK.out.nG; simp at this ⊢; omega), ⟨HK.out.ld.bk.keepT HK.out.ld.sp f3, h3, HK.out.ld.sp, dXz5⟩, HK.out.nG⟩
      replace HF : Hid (Fr [] w wn) := HF.out.trans f3 (fun x hx hm => by have := HG.out x (by simp at hm ⊢; omega); omega)
      clear h3 f3 b0 b1
      go_wp2_with fail
      refine (fact_calls G D T C R B L Xz6 [66, 50] [49, 48, 48] 0 _ HK.out (by decide) eXz6).mono ?_
      rintro x wn ⟨rfl, h3, f3⟩
      replace HK : Hid (GtAt wn G D T C R B L Xz7) := h3
      replace HF : Hid (Fr [] w wn) := HF.out.trans f3 (fun x hx hm => by have := HG.out x hm; omega)
      clear h3 f3
      go_wp2_with fail
      refine (look_calls G D T C R B L Xz7 _ HK.out _ lXz7).mono ?_
      rintro x wn ⟨rfl, f3⟩
      replace HK : Hid (GtAt wn G D T C R B L Xz7) := ⟨HK.out.ct.keep f3 (by simp), HK.out.ld.keep f3 (by simp), HK.out.nG⟩
      replace HF : Hid (Fr [] w wn) := HF.out.trans f3 (by simp)
      clear f3
      go_wp2_with fail
      clear HZ
      clear HK HG
      refine (ground_calls _).mono ?_
      rintro e w1 ⟨D, T, C, R, B, L, rfl, h1, f1, s1⟩
      have H1 : Hid (LdAt w1 D T C R B L V.Ld.fresh) := h1
      have F1 : Hid (Fr [] w w1) := HF.out.trans f1 (by simp)
      have HS : Hid (∀ x ∈ [D, T, C, R, B, L], w.heap.size ≤ x) := by have a := HF.out.size; intro x hx; have := s1 x hx; omega
      clear h1 f1 s1
      go_wp2_with (go_at_call 17; refine (gnew_calls D T C R B L V.Ld.fresh _ (H1.out.keep (X := []) ((Fr.refl _ _).alloc _) (by simp))).mono ?_)
      rintro e w2 ⟨G, rfl, h2, f2, s2⟩
      have HK : Hid (GtAt w2 G D T C R B L Xu0) := h2
      replace HF : Hid (Fr [] w w2) := ((F1.out.alloc _)).trans f2 (by simp)
      have HG : Hid (∀ x ∈ [G, D, T, C, R, B, L], w.heap.size ≤ x) := by have := F1.out.size; simp at s2; have := HS.out; simp at this; show ∀ x ∈ _, _ ≤ _; simp; omega
      clear h2 f2 s2 H1 F1 HS
      go_wp2_with fail
      refine (fact_calls G D T C R B L Xu0 [84, 48, 49, 51, 48, 48] [] 6 _ HK.out (by decide) eXu0).mono ?_
      rintro x wn ⟨rfl, h3, f3⟩
      replace HK : Hid (GtAt wn G D T C R B L Xu1) := h3
      replace HF : Hid (Fr [] w wn) := HF.out.trans f3 (fun x hx hm => by have := HG.out x hm; omega)
      clear h3 f3
      go_wp2_with fail
      refine (fact_calls G D T C R B L Xu1 [84, 48, 49, 48, 48, 55] [57, 51] 0 _ HK.out (by decide) eXu1).mono ?_
      rintro x wn ⟨rfl, h3, f3⟩
      replace HK : Hid (GtAt wn G D T C R B L Xu2) := h3
      replace HF : Hid (Fr [] w wn) := HF.out.trans f3 (fun x hx hm => by have := HG.out x hm; omega)
      clear h3 f3
      go_wp2_with fail
      refine (fact_calls G D T C R B L Xu2 [116, 48, 49, 51, 48] [64, 48] 8 _ HK.out (by decide) eXu2).mono ?_
      rintro x wn ⟨rfl, h3, f3⟩
      replace HK : Hid (GtAt wn G D T C R B L Xu3) := h3
      replace HF : Hid (Fr [] w wn) := HF.out.trans f3 (fun x hx hm => by have := HG.out x hm; omega)
      clear h3 f3
      go_wp2_with fail
      refine (fact_calls G D T C R B L Xu3 [84, 50, 51, 49] [57, 57] 0 _ HK.out (by decide) eXu3).mono ?_
      rintro x wn ⟨rfl, h3, f3⟩
      replace HK : Hid (GtAt wn G D T C R B L Xu4) := h3
      replace HF : Hid (Fr [] w wn) := HF.out.trans f3 (fun x hx hm => by have := HG.out x hm; omega)
      clear h3 f3
      go_wp2_with fail
      refine (look_calls G D T C R B L Xu4 _ HK.out _ lXu4).mono ?_
      rintro x wn ⟨rfl, f3⟩
      replace HK : Hid (GtAt wn G D T C R B L Xu4) := ⟨HK.out.ct.keep f3 (by simp), HK.out.ld.keep f3 (by simp), HK.out.nG⟩
      replace HF : Hid (Fr [] w wn) := HF.out.trans f3 (by simp)
      clear f3
      go_wp2_with fail
      refine (fact_calls G D T C R B L Xu4 [84, 50, 49, 57, 57] [48] 0 _ HK.out (by decide) eXu4).mono ?_
      rintro x wn ⟨rfl, h3, f3⟩
      replace HK : Hid (GtAt wn G D T C R B L Xu5) := h3
      replace HF : Hid (Fr [] w wn) := HF.out.trans f3 (fun x hx hm => by have := HG.out x hm; omega)
      clear h3 f3
      go_wp2_with fail
      refine (fact_calls G D T C R B L Xu5 [88, 48, 49, 53, 48, 59] [35, 48] 7 _ HK.out (by decide) eXu5).mono ?_
      rintro x wn ⟨rfl, h3, f3⟩
      replace HK : Hid (GtAt wn G D T C R B L Xu6) := h3
      replace HF : Hid (Fr [] w wn) := HF.out.trans f3 (fun x hx hm => by have := HG.out x hm; omega)
      clear h3 f3
      go_wp2_with fail
      refine (look_calls G D T C R B L Xu6 _ HK.out _ lXu6).mono ?_
      rintro x wn ⟨rfl, f3⟩
      replace HK : Hid (GtAt wn G D T C R B L Xu6) := ⟨HK.out.ct.keep f3 (by simp), HK.out.ld.keep f3 (by simp), HK.out.nG⟩
      replace HF : Hid (Fr [] w wn) := HF.out.trans f3 (by simp)
      clear f3
      go_wp2_with fail
      refine (fact_calls G D T C R B L Xu6 [88, 48, 49, 57, 57, 59] [35, 48] 6 _ HK.out (by decide) eXu6).mono ?_
      rintro x wn ⟨rfl, h3, f3⟩
      replace HK : Hid (GtAt wn G D T C R B L Xu7) := h3
      replace HF : Hid (Fr [] w wn) := HF.out.trans f3 (fun x hx hm => by have := HG.out x hm; omega)
      clear h3 f3
      go_wp2_with fail
      refine (look_calls G D T C R B L Xu7 _ HK.out _ lXu7).mono ?_
      rintro x wn ⟨rfl, f3⟩
      replace HK : Hid (GtAt wn G D T C R B L Xu7) := ⟨HK.out.ct.keep f3 (by simp), HK.out.ld.keep f3 (by simp), HK.out.nG⟩
      replace HF : Hid (Fr [] w wn) := HF.out.trans f3 (by simp)
      clear f3
      go_wp2_with fail
      refine (fact_calls G D T C R B L Xu7 [88, 48, 51, 49, 59, 51, 48, 49, 59, 48, 49, 57, 57, 59] [35, 50] 6 _ HK.out (by decide) eXu7).mono ?_
      rintro x wn ⟨rfl, h3, f3⟩
      replace HK : Hid (GtAt wn G D T C R B L Xu8) := h3
      replace HF : Hid (Fr [] w wn) := HF.out.trans f3 (fun x hx hm => by have := HG.out x hm; omega)
      clear h3 f3
      go_wp2_with fail
      refine (look_calls G D T C R B L Xu8 _ HK.out _ lXu8).mono ?_
      rintro x wn ⟨rfl, f3⟩
      replace HK : Hid (GtAt wn G D T C R B L Xu8) := ⟨HK.out.ct.keep f3 (by simp), HK.out.ld.keep f3 (by simp), HK.out.nG⟩
      replace HF : Hid (Fr [] w wn) := HF.out.trans f3 (by simp)
      clear f3
      go_wp2_with fail
      refine (fact_calls G D T C R B L Xu8 [88, 48, 51, 49, 59, 50, 50, 49, 59] [35, 49] 3 _ HK.out (by decide) eXu8).mono ?_
      rintro x wn ⟨rfl, h3, f3⟩
      replace HK : Hid (GtAt wn G D T C R B L Xu9) := h3
      replace HF : Hid (Fr [] w wn) := HF.out.trans f3 (fun x hx hm => by have := HG.out x hm; omega)
      clear h3 f3
      go_wp2_with fail
      refine (look_calls G D T C R B L Xu9 _ HK.out _ lXu9).mono ?_
      rintro x wn ⟨rfl, f3⟩
      replace HK : Hid (GtAt wn G D T C R B L Xu9) := ⟨HK.out.ct.keep f3 (by simp), HK.out.ld.keep f3 (by simp), HK.out.nG⟩
      replace HF : Hid (Fr [] w wn) := HF.out.trans f3 (by simp)
      clear f3
      go_wp2_with fail
      refine (fact_calls G D T C R B L Xu9 [88, 48, 49, 49, 59, 48, 49, 59] [64, 55] 8 _ HK.out (by decide) eXu9).mono ?_
      rintro x wn ⟨rfl, h3, f3⟩
      replace HK : Hid (GtAt wn G D T C R B L Xu10) := h3
      replace HF : Hid (Fr [] w wn) := HF.out.trans f3 (fun x hx hm => by have := HG.out x hm; omega)
      clear h3 f3
      go_wp2_with fail
      refine (fact_calls G D T C R B L Xu10 [83, 49, 57] [50, 50] 0 _ HK.out (by decide) eXu10).mono ?_
      rintro x wn ⟨rfl, h3, f3⟩
      replace HK : Hid (GtAt wn G D T C R B L Xu11) := h3
      replace HF : Hid (Fr [] w wn) := HF.out.trans f3 (fun x hx hm => by have := HG.out x hm; omega)
      clear h3 f3
      go_wp2_with fail
      refine (fact_calls G D T C R B L Xu11 [66, 52] [] 2 _ HK.out (by decide) eXu11).mono ?_
      rintro x wn ⟨rfl, h3, f3⟩
      replace HK : Hid (GtAt wn G D T C R B L Xu12) := h3
      replace HF : Hid (Fr [] w wn) := HF.out.trans f3 (fun x hx hm => by have := HG.out x hm; omega)
      clear h3 f3
      go_wp2_with fail
      refine (look_calls G D T C R B L Xu12 _ HK.out _ lXu12).mono ?_
      rintro x wn ⟨rfl, f3⟩
      replace HK : Hid (GtAt wn G D T C R B L Xu12) := ⟨HK.out.ct.keep f3 (by simp), HK.out.ld.keep f3 (by simp), HK.out.nG⟩
      replace HF : Hid (Fr [] w wn) := HF.out.trans f3 (by simp)
      clear f3
      go_wp2_with fail
      refine (fact_calls G D T C R B L Xu12 [88, 48, 51, 48, 59] [35, 48] 2 _ HK.out (by decide) eXu12).mono ?_
      rintro x wn ⟨rfl, h3, f3⟩
      replace HK : Hid (GtAt wn G D T C R B L Xu13) := h3
      replace HF : Hid (Fr [] w wn) := HF.out.trans f3 (fun x hx hm => by have := HG.out x hm; omega)
      clear h3 f3
      go_wp2_with fail
      refine (look_calls G D T C R B L Xu13 _ HK.out _ lXu13).mono ?_
      rintro x wn ⟨rfl, f3⟩
      replace HK : Hid (GtAt wn G D T C R B L Xu13) := ⟨HK.out.ct.keep f3 (by simp), HK.out.ld.keep f3 (by simp), HK.out.nG⟩
      replace HF : Hid (Fr [] w wn) := HF.out.trans f3 (by simp)
      clear f3
      go_wp2_with fail
      go_loopw [13] (fun i w' => ∃ k : Nat, k ≤ 101 ∧ i = .int .i64 k ∧ GtAt w' G D T C R B L (loopU k) ∧ Fr [] w w') (fun i _ => 101 - (intOf i).toNat)
      case atStart => exact ⟨0, by omega, rfl, HK.out, HF.out⟩
      case round =>
        obtain ⟨k, hk, rfl, hg, hf⟩ := hrel
        clear HK HF
        have HK : Hid (GtAt wr G D T C R B L (loopU k)) := hg
        have HF : Hid (Fr [] w wr) := hf
        clear hg hf
        by_cases hlt : k < 101
        · have hlt' : (k : Int) < 101 := by omega
          go_wp2_with fail
          refine (fact_calls G D T C R B L (loopU k) [88, 48, 49, 53, 48, 59] [35, 48] 7 _ HK.out (by decide) (loopU_eq k hlt)).mono ?_
          rintro x wn ⟨rfl, h3, f3⟩
          have H3 : Hid (GtAt wn G D T C R B L (loopU (k + 1))) := h3
          have F3 : Hid (Fr [] w wn) := HF.out.trans f3 (fun x hx hm => by have := HG.out x hm; omega)
          clear h3 f3
          go_wp2_with fail
          exact ⟨⟨k + 1, by omega, by simp, H3.out, F3.out⟩, by simp [intOf]; omega⟩
        · have hk4 : k = 101 := by omega
          subst hk4
          replace HK : Hid (GtAt wr G D T C R B L Xu14) := HK.out
          go_wp2_with fail
          refine (look_calls G D T C R B L Xu14 _ HK.out _ lXu14).mono ?_
          rintro x wn ⟨rfl, f3⟩
          replace HK : Hid (GtAt wn G D T C R B L Xu14) := ⟨HK.out.ct.keep f3 (by simp), HK.out.ld.keep f3 (by simp), HK.out.nG⟩
          replace HF : Hid (Fr [] w wn) := HF.out.trans f3 (by simp)
          clear f3
          go_wp2_with fail
          refine (fact_calls G D T C R B L Xu14 [84, 48, 51, 48, 49, 48] [56, 51] 0 _ HK.out (by decide) eXu14).mono ?_
          rintro x wn ⟨rfl, h3, f3⟩
          replace HK : Hid (GtAt wn G D T C R B L Xu15) := h3
          replace HF : Hid (Fr [] w wn) := HF.out.trans f3 (fun x hx hm => by have := HG.out x hm; omega)
          clear h3 f3
          go_wp2_with fail
          refine (fact_calls G D T C R B L Xu15 [84, 48, 51, 48, 48, 48, 49] [64, 54] 8 _ HK.out (by decide) eXu15).mono ?_
          rintro x wn ⟨rfl, h3, f3⟩
          replace HK : Hid (GtAt wn G D T C R B L Xu16) := h3
          replace HF : Hid (Fr [] w wn) := HF.out.trans f3 (fun x hx hm => by have := HG.out x hm; omega)
          clear h3 f3
          go_wp2_with fail
          refine (fact_calls G D T C R B L Xu16 [84, 48, 51, 53, 49, 51] [] 6 _ HK.out (by decide) eXu16).mono ?_
          rintro x wn ⟨rfl, h3, f3⟩
          replace HK : Hid (GtAt wn G D T C R B L Xu17) := h3
          replace HF : Hid (Fr [] w wn) := HF.out.trans f3 (fun x hx hm => by have := HG.out x hm; omega)
          clear h3 f3
          go_wp2_with fail
          refine (look_calls G D T C R B L Xu17 _ HK.out _ lXu17).mono ?_
          rintro x wn ⟨rfl, f3⟩
          replace HK : Hid (GtAt wn G D T C R B L Xu17) := ⟨HK.out.ct.keep f3 (by simp), HK.out.ld.keep f3 (by simp), HK.out.nG⟩
          replace HF : Hid (Fr [] w wn) := HF.out.trans f3 (by simp)
          clear f3
          go_wp2_with fail
          go_ret
          exact ⟨rfl, HF.out⟩

end Go.Proofs.Qxb6500360a
