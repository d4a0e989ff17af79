/- Plain law: both Checks are one; both Decodes answer the same at three registers. No conditions beyond what each states. -/
import Derived.Test.YtlgdfacaeahcaaaDoorLA
import Derived.Test.YtlgdfacaeahcaaaDoorEB
import Derived.Test.YtlgdfacaeahcaaaDoorD8a
import Derived.Test.YtlgdfacaeahcaaaDoorE6a
set_option linter.unusedVariables false
set_option linter.unusedSimpArgs false
namespace Go.Proofs.YtlgdfacaeahcaaaDoor
open Go.RowKit
theorem chk_R {o : Int} (h1 : 1 ≤ o) (h2 : o ≤ 17) (d a b i : Int) : chkA o d a b i = chkR o d a b i := by
  have e1 := FM_plain h1 h2
  have e2 : RF o = 82 := by unfold RF; rw [if_pos ⟨h1, h2⟩]
  unfold chkA chkR
  rw [e1, e2]
  have f1 : hasB ⟨#[68, 65, 66]⟩ 68 = true := by decide
  have f2 : hasB ⟨#[68, 65, 66]⟩ 65 = true := by decide
  have f3 : hasB ⟨#[68, 65, 66]⟩ 66 = true := by decide
  have f4 : hasB ⟨#[68, 65, 66]⟩ 73 = false := by decide
  have g1 : inB 82 100 = true := by decide
  have g2 : inB 82 97 = true := by decide
  have g3 : inB 82 98 = true := by decide
  simp only [f1, f2, f3, f4, g1, g2, g3]
  have h27 : decide (o ≠ 27) = true := by simp; omega
  unfold chkQ rfB
  simp [h27]
theorem FM_18 : FM 18 = (⟨#[68, 65, 73]⟩, -32768, 32767, 16, true) := by rfl
theorem RF_18 : RF 18 = 83 := by decide
theorem chk_18 (d a b i : Int) : chkA 18 d a b i = chkR 18 d a b i := by
  unfold chkA chkR
  rw [FM_18, RF_18]
  have fD : hasB ⟨#[68, 65, 73]⟩ 68 = true := by decide
  have fA : hasB ⟨#[68, 65, 73]⟩ 65 = true := by decide
  have fB : hasB ⟨#[68, 65, 73]⟩ 66 = false := by decide
  have fI : hasB ⟨#[68, 65, 73]⟩ 73 = true := by decide
  have gD : inB 83 100 = true := by decide
  have gA : inB 83 97 = true := by decide
  have gB : inB 83 98 = false := by decide
  simp only [fD, fA, fB, fI, gD, gA, gB]
  unfold chkQ rfB
  rw [Bool.eq_iff_iff]
  simp
  try omega
theorem FM_19 : FM 19 = (⟨#[68, 65, 73]⟩, 0, 65535, 16, true) := by rfl
theorem RF_19 : RF 19 = 85 := by decide
theorem chk_19 (d a b i : Int) : chkA 19 d a b i = chkR 19 d a b i := by
  unfold chkA chkR
  rw [FM_19, RF_19]
  have fD : hasB ⟨#[68, 65, 73]⟩ 68 = true := by decide
  have fA : hasB ⟨#[68, 65, 73]⟩ 65 = true := by decide
  have fB : hasB ⟨#[68, 65, 73]⟩ 66 = false := by decide
  have fI : hasB ⟨#[68, 65, 73]⟩ 73 = true := by decide
  have gD : inB 85 100 = true := by decide
  have gA : inB 85 97 = true := by decide
  have gB : inB 85 98 = false := by decide
  simp only [fD, fA, fB, fI, gD, gA, gB]
  unfold chkQ rfB
  rw [Bool.eq_iff_iff]
  simp
  try omega
theorem FM_20 : FM 20 = (⟨#[68, 65, 73]⟩, 0, 65535, 16, true) := by rfl
theorem RF_20 : RF 20 = 85 := by decide
theorem chk_20 (d a b i : Int) : chkA 20 d a b i = chkR 20 d a b i := by
  unfold chkA chkR
  rw [FM_20, RF_20]
  have fD : hasB ⟨#[68, 65, 73]⟩ 68 = true := by decide
  have fA : hasB ⟨#[68, 65, 73]⟩ 65 = true := by decide
  have fB : hasB ⟨#[68, 65, 73]⟩ 66 = false := by decide
  have fI : hasB ⟨#[68, 65, 73]⟩ 73 = true := by decide
  have gD : inB 85 100 = true := by decide
  have gA : inB 85 97 = true := by decide
  have gB : inB 85 98 = false := by decide
  simp only [fD, fA, fB, fI, gD, gA, gB]
  unfold chkQ rfB
  rw [Bool.eq_iff_iff]
  simp
  try omega
theorem FM_21 : FM 21 = (⟨#[68, 65, 73]⟩, 0, 65535, 16, true) := by rfl
theorem RF_21 : RF 21 = 85 := by decide
theorem chk_21 (d a b i : Int) : chkA 21 d a b i = chkR 21 d a b i := by
  unfold chkA chkR
  rw [FM_21, RF_21]
  have fD : hasB ⟨#[68, 65, 73]⟩ 68 = true := by decide
  have fA : hasB ⟨#[68, 65, 73]⟩ 65 = true := by decide
  have fB : hasB ⟨#[68, 65, 73]⟩ 66 = false := by decide
  have fI : hasB ⟨#[68, 65, 73]⟩ 73 = true := by decide
  have gD : inB 85 100 = true := by decide
  have gA : inB 85 97 = true := by decide
  have gB : inB 85 98 = false := by decide
  simp only [fD, fA, fB, fI, gD, gA, gB]
  unfold chkQ rfB
  rw [Bool.eq_iff_iff]
  simp
  try omega
theorem FM_22 : FM 22 = (⟨#[68, 65, 73]⟩, 0, 31, 16, true) := by rfl
theorem RF_22 : RF 22 = 67 := by decide
theorem chk_22 (d a b i : Int) : chkA 22 d a b i = chkR 22 d a b i := by
  unfold chkA chkR
  rw [FM_22, RF_22]
  have fD : hasB ⟨#[68, 65, 73]⟩ 68 = true := by decide
  have fA : hasB ⟨#[68, 65, 73]⟩ 65 = true := by decide
  have fB : hasB ⟨#[68, 65, 73]⟩ 66 = false := by decide
  have fI : hasB ⟨#[68, 65, 73]⟩ 73 = true := by decide
  have gD : inB 67 100 = true := by decide
  have gA : inB 67 97 = true := by decide
  have gB : inB 67 98 = false := by decide
  simp only [fD, fA, fB, fI, gD, gA, gB]
  unfold chkQ rfB
  rw [Bool.eq_iff_iff]
  simp
  try omega
theorem FM_23 : FM 23 = (⟨#[68, 65, 73]⟩, 0, 31, 16, true) := by rfl
theorem RF_23 : RF 23 = 67 := by decide
theorem chk_23 (d a b i : Int) : chkA 23 d a b i = chkR 23 d a b i := by
  unfold chkA chkR
  rw [FM_23, RF_23]
  have fD : hasB ⟨#[68, 65, 73]⟩ 68 = true := by decide
  have fA : hasB ⟨#[68, 65, 73]⟩ 65 = true := by decide
  have fB : hasB ⟨#[68, 65, 73]⟩ 66 = false := by decide
  have fI : hasB ⟨#[68, 65, 73]⟩ 73 = true := by decide
  have gD : inB 67 100 = true := by decide
  have gA : inB 67 97 = true := by decide
  have gB : inB 67 98 = false := by decide
  simp only [fD, fA, fB, fI, gD, gA, gB]
  unfold chkQ rfB
  rw [Bool.eq_iff_iff]
  simp
  try omega
theorem FM_24 : FM 24 = (⟨#[68, 65, 73]⟩, 0, 31, 16, true) := by rfl
theorem RF_24 : RF 24 = 67 := by decide
theorem chk_24 (d a b i : Int) : chkA 24 d a b i = chkR 24 d a b i := by
  unfold chkA chkR
  rw [FM_24, RF_24]
  have fD : hasB ⟨#[68, 65, 73]⟩ 68 = true := by decide
  have fA : hasB ⟨#[68, 65, 73]⟩ 65 = true := by decide
  have fB : hasB ⟨#[68, 65, 73]⟩ 66 = false := by decide
  have fI : hasB ⟨#[68, 65, 73]⟩ 73 = true := by decide
  have gD : inB 67 100 = true := by decide
  have gA : inB 67 97 = true := by decide
  have gB : inB 67 98 = false := by decide
  simp only [fD, fA, fB, fI, gD, gA, gB]
  unfold chkQ rfB
  rw [Bool.eq_iff_iff]
  simp
  try omega
theorem FM_25 : FM 25 = (⟨#[68, 73]⟩, -32768, 32767, 16, true) := by rfl
theorem RF_25 : RF 25 = 76 := by decide
theorem chk_25 (d a b i : Int) : chkA 25 d a b i = chkR 25 d a b i := by
  unfold chkA chkR
  rw [FM_25, RF_25]
  have fD : hasB ⟨#[68, 73]⟩ 68 = true := by decide
  have fA : hasB ⟨#[68, 73]⟩ 65 = false := by decide
  have fB : hasB ⟨#[68, 73]⟩ 66 = false := by decide
  have fI : hasB ⟨#[68, 73]⟩ 73 = true := by decide
  have gD : inB 76 100 = true := by decide
  have gA : inB 76 97 = false := by decide
  have gB : inB 76 98 = false := by decide
  simp only [fD, fA, fB, fI, gD, gA, gB]
  unfold chkQ rfB
  rw [Bool.eq_iff_iff]
  simp
  try omega
theorem FM_26 : FM 26 = (⟨#[68, 73]⟩, 0, 65535, 16, true) := by rfl
theorem RF_26 : RF 26 = 72 := by decide
theorem chk_26 (d a b i : Int) : chkA 26 d a b i = chkR 26 d a b i := by
  unfold chkA chkR
  rw [FM_26, RF_26]
  have fD : hasB ⟨#[68, 73]⟩ 68 = true := by decide
  have fA : hasB ⟨#[68, 73]⟩ 65 = false := by decide
  have fB : hasB ⟨#[68, 73]⟩ 66 = false := by decide
  have fI : hasB ⟨#[68, 73]⟩ 73 = true := by decide
  have gD : inB 72 100 = true := by decide
  have gA : inB 72 97 = false := by decide
  have gB : inB 72 98 = false := by decide
  simp only [fD, fA, fB, fI, gD, gA, gB]
  unfold chkQ rfB
  rw [Bool.eq_iff_iff]
  simp
  try omega
theorem FM_27 : FM 27 = (⟨#[68, 65, 73]⟩, 8, 16, 16, true) := by rfl
theorem RF_27 : RF 27 = 69 := by decide
theorem chk_27 (d a b i : Int) : chkA 27 d a b i = chkR 27 d a b i := by
  unfold chkA chkR
  rw [FM_27, RF_27]
  have fD : hasB ⟨#[68, 65, 73]⟩ 68 = true := by decide
  have fA : hasB ⟨#[68, 65, 73]⟩ 65 = true := by decide
  have fB : hasB ⟨#[68, 65, 73]⟩ 66 = false := by decide
  have fI : hasB ⟨#[68, 65, 73]⟩ 73 = true := by decide
  have gD : inB 69 100 = true := by decide
  have gA : inB 69 97 = true := by decide
  have gB : inB 69 98 = false := by decide
  simp only [fD, fA, fB, fI, gD, gA, gB]
  unfold chkQ rfB
  rw [Bool.eq_iff_iff]
  simp
  try omega
theorem FM_28 : FM 28 = (⟨#[68, 65, 73]⟩, -32768, 32767, 16, true) := by rfl
theorem RF_28 : RF 28 = 83 := by decide
theorem chk_28 (d a b i : Int) : chkA 28 d a b i = chkR 28 d a b i := by
  unfold chkA chkR
  rw [FM_28, RF_28]
  have fD : hasB ⟨#[68, 65, 73]⟩ 68 = true := by decide
  have fA : hasB ⟨#[68, 65, 73]⟩ 65 = true := by decide
  have fB : hasB ⟨#[68, 65, 73]⟩ 66 = false := by decide
  have fI : hasB ⟨#[68, 65, 73]⟩ 73 = true := by decide
  have gD : inB 83 100 = true := by decide
  have gA : inB 83 97 = true := by decide
  have gB : inB 83 98 = false := by decide
  simp only [fD, fA, fB, fI, gD, gA, gB]
  unfold chkQ rfB
  rw [Bool.eq_iff_iff]
  simp
  try omega
theorem FM_29 : FM 29 = (⟨#[68, 65, 73]⟩, -32768, 32767, 16, true) := by rfl
theorem RF_29 : RF 29 = 83 := by decide
theorem chk_29 (d a b i : Int) : chkA 29 d a b i = chkR 29 d a b i := by
  unfold chkA chkR
  rw [FM_29, RF_29]
  have fD : hasB ⟨#[68, 65, 73]⟩ 68 = true := by decide
  have fA : hasB ⟨#[68, 65, 73]⟩ 65 = true := by decide
  have fB : hasB ⟨#[68, 65, 73]⟩ 66 = false := by decide
  have fI : hasB ⟨#[68, 65, 73]⟩ 73 = true := by decide
  have gD : inB 83 100 = true := by decide
  have gA : inB 83 97 = true := by decide
  have gB : inB 83 98 = false := by decide
  simp only [fD, fA, fB, fI, gD, gA, gB]
  unfold chkQ rfB
  rw [Bool.eq_iff_iff]
  simp
  try omega
theorem FM_30 : FM 30 = (⟨#[68, 65, 73]⟩, -32768, 32767, 16, true) := by rfl
theorem RF_30 : RF 30 = 83 := by decide
theorem chk_30 (d a b i : Int) : chkA 30 d a b i = chkR 30 d a b i := by
  unfold chkA chkR
  rw [FM_30, RF_30]
  have fD : hasB ⟨#[68, 65, 73]⟩ 68 = true := by decide
  have fA : hasB ⟨#[68, 65, 73]⟩ 65 = true := by decide
  have fB : hasB ⟨#[68, 65, 73]⟩ 66 = false := by decide
  have fI : hasB ⟨#[68, 65, 73]⟩ 73 = true := by decide
  have gD : inB 83 100 = true := by decide
  have gA : inB 83 97 = true := by decide
  have gB : inB 83 98 = false := by decide
  simp only [fD, fA, fB, fI, gD, gA, gB]
  unfold chkQ rfB
  rw [Bool.eq_iff_iff]
  simp
  try omega
theorem FM_31 : FM 31 = (⟨#[68, 65, 73]⟩, -32768, 32767, 16, true) := by rfl
theorem RF_31 : RF 31 = 83 := by decide
theorem chk_31 (d a b i : Int) : chkA 31 d a b i = chkR 31 d a b i := by
  unfold chkA chkR
  rw [FM_31, RF_31]
  have fD : hasB ⟨#[68, 65, 73]⟩ 68 = true := by decide
  have fA : hasB ⟨#[68, 65, 73]⟩ 65 = true := by decide
  have fB : hasB ⟨#[68, 65, 73]⟩ 66 = false := by decide
  have fI : hasB ⟨#[68, 65, 73]⟩ 73 = true := by decide
  have gD : inB 83 100 = true := by decide
  have gA : inB 83 97 = true := by decide
  have gB : inB 83 98 = false := by decide
  simp only [fD, fA, fB, fI, gD, gA, gB]
  unfold chkQ rfB
  rw [Bool.eq_iff_iff]
  simp
  try omega
theorem FM_32 : FM 32 = (⟨#[68, 65, 73]⟩, -32768, 32767, 16, true) := by rfl
theorem RF_32 : RF 32 = 83 := by decide
theorem chk_32 (d a b i : Int) : chkA 32 d a b i = chkR 32 d a b i := by
  unfold chkA chkR
  rw [FM_32, RF_32]
  have fD : hasB ⟨#[68, 65, 73]⟩ 68 = true := by decide
  have fA : hasB ⟨#[68, 65, 73]⟩ 65 = true := by decide
  have fB : hasB ⟨#[68, 65, 73]⟩ 66 = false := by decide
  have fI : hasB ⟨#[68, 65, 73]⟩ 73 = true := by decide
  have gD : inB 83 100 = true := by decide
  have gA : inB 83 97 = true := by decide
  have gB : inB 83 98 = false := by decide
  simp only [fD, fA, fB, fI, gD, gA, gB]
  unfold chkQ rfB
  rw [Bool.eq_iff_iff]
  simp
  try omega
theorem FM_33 : FM 33 = (⟨#[68, 65, 73]⟩, -32768, 32767, 16, true) := by rfl
theorem RF_33 : RF 33 = 83 := by decide
theorem chk_33 (d a b i : Int) : chkA 33 d a b i = chkR 33 d a b i := by
  unfold chkA chkR
  rw [FM_33, RF_33]
  have fD : hasB ⟨#[68, 65, 73]⟩ 68 = true := by decide
  have fA : hasB ⟨#[68, 65, 73]⟩ 65 = true := by decide
  have fB : hasB ⟨#[68, 65, 73]⟩ 66 = false := by decide
  have fI : hasB ⟨#[68, 65, 73]⟩ 73 = true := by decide
  have gD : inB 83 100 = true := by decide
  have gA : inB 83 97 = true := by decide
  have gB : inB 83 98 = false := by decide
  simp only [fD, fA, fB, fI, gD, gA, gB]
  unfold chkQ rfB
  rw [Bool.eq_iff_iff]
  simp
  try omega
theorem FM_34 : FM 34 = (⟨#[65, 73]⟩, -32768, 32767, 16, true) := by rfl
theorem RF_34 : RF 34 = 66 := by decide
theorem chk_34 (d a b i : Int) : chkA 34 d a b i = chkR 34 d a b i := by
  unfold chkA chkR
  rw [FM_34, RF_34]
  have fD : hasB ⟨#[65, 73]⟩ 68 = false := by decide
  have fA : hasB ⟨#[65, 73]⟩ 65 = true := by decide
  have fB : hasB ⟨#[65, 73]⟩ 66 = false := by decide
  have fI : hasB ⟨#[65, 73]⟩ 73 = true := by decide
  have gD : inB 66 100 = false := by decide
  have gA : inB 66 97 = true := by decide
  have gB : inB 66 98 = false := by decide
  simp only [fD, fA, fB, fI, gD, gA, gB]
  unfold chkQ rfB
  rw [Bool.eq_iff_iff]
  simp
  try omega
theorem FM_35 : FM 35 = (⟨#[65, 73]⟩, -32768, 32767, 16, true) := by rfl
theorem RF_35 : RF 35 = 66 := by decide
theorem chk_35 (d a b i : Int) : chkA 35 d a b i = chkR 35 d a b i := by
  unfold chkA chkR
  rw [FM_35, RF_35]
  have fD : hasB ⟨#[65, 73]⟩ 68 = false := by decide
  have fA : hasB ⟨#[65, 73]⟩ 65 = true := by decide
  have fB : hasB ⟨#[65, 73]⟩ 66 = false := by decide
  have fI : hasB ⟨#[65, 73]⟩ 73 = true := by decide
  have gD : inB 66 100 = false := by decide
  have gA : inB 66 97 = true := by decide
  have gB : inB 66 98 = false := by decide
  simp only [fD, fA, fB, fI, gD, gA, gB]
  unfold chkQ rfB
  rw [Bool.eq_iff_iff]
  simp
  try omega
theorem FM_36 : FM 36 = (⟨#[68, 65, 73]⟩, -32768, 32767, 16, true) := by rfl
theorem RF_36 : RF 36 = 84 := by decide
theorem chk_36 (d a b i : Int) : chkA 36 d a b i = chkR 36 d a b i := by
  unfold chkA chkR
  rw [FM_36, RF_36]
  have fD : hasB ⟨#[68, 65, 73]⟩ 68 = true := by decide
  have fA : hasB ⟨#[68, 65, 73]⟩ 65 = true := by decide
  have fB : hasB ⟨#[68, 65, 73]⟩ 66 = false := by decide
  have fI : hasB ⟨#[68, 65, 73]⟩ 73 = true := by decide
  have gD : inB 84 100 = true := by decide
  have gA : inB 84 97 = true := by decide
  have gB : inB 84 98 = false := by decide
  simp only [fD, fA, fB, fI, gD, gA, gB]
  unfold chkQ rfB
  rw [Bool.eq_iff_iff]
  simp
  try omega
theorem FM_37 : FM 37 = (⟨#[73]⟩, -8388608, 8388607, 24, true) := by rfl
theorem RF_37 : RF 37 = 74 := by decide
theorem chk_37 (d a b i : Int) : chkA 37 d a b i = chkR 37 d a b i := by
  unfold chkA chkR
  rw [FM_37, RF_37]
  have fD : hasB ⟨#[73]⟩ 68 = false := by decide
  have fA : hasB ⟨#[73]⟩ 65 = false := by decide
  have fB : hasB ⟨#[73]⟩ 66 = false := by decide
  have fI : hasB ⟨#[73]⟩ 73 = true := by decide
  have gD : inB 74 100 = false := by decide
  have gA : inB 74 97 = false := by decide
  have gB : inB 74 98 = false := by decide
  simp only [fD, fA, fB, fI, gD, gA, gB]
  unfold chkQ rfB
  rw [Bool.eq_iff_iff]
  simp
  try omega
theorem FM_38 : FM 38 = (⟨#[73]⟩, -8388608, 8388607, 24, true) := by rfl
theorem RF_38 : RF 38 = 74 := by decide
theorem chk_38 (d a b i : Int) : chkA 38 d a b i = chkR 38 d a b i := by
  unfold chkA chkR
  rw [FM_38, RF_38]
  have fD : hasB ⟨#[73]⟩ 68 = false := by decide
  have fA : hasB ⟨#[73]⟩ 65 = false := by decide
  have fB : hasB ⟨#[73]⟩ 66 = false := by decide
  have fI : hasB ⟨#[73]⟩ 73 = true := by decide
  have gD : inB 74 100 = false := by decide
  have gA : inB 74 97 = false := by decide
  have gB : inB 74 98 = false := by decide
  simp only [fD, fA, fB, fI, gD, gA, gB]
  unfold chkQ rfB
  rw [Bool.eq_iff_iff]
  simp
  try omega
theorem FM_39 : FM 39 = (⟨#[65]⟩, 0, 0, 0, true) := by rfl
theorem RF_39 : RF 39 = 71 := by decide
theorem chk_39 (d a b i : Int) : chkA 39 d a b i = chkR 39 d a b i := by
  unfold chkA chkR
  rw [FM_39, RF_39]
  have fD : hasB ⟨#[65]⟩ 68 = false := by decide
  have fA : hasB ⟨#[65]⟩ 65 = true := by decide
  have fB : hasB ⟨#[65]⟩ 66 = false := by decide
  have fI : hasB ⟨#[65]⟩ 73 = false := by decide
  have gD : inB 71 100 = false := by decide
  have gA : inB 71 97 = true := by decide
  have gB : inB 71 98 = false := by decide
  simp only [fD, fA, fB, fI, gD, gA, gB]
  unfold chkQ rfB
  rw [Bool.eq_iff_iff]
  simp
  try omega
theorem FM_40 : FM 40 = (⟨#[65]⟩, 0, 0, 0, true) := by rfl
theorem RF_40 : RF 40 = 71 := by decide
theorem chk_40 (d a b i : Int) : chkA 40 d a b i = chkR 40 d a b i := by
  unfold chkA chkR
  rw [FM_40, RF_40]
  have fD : hasB ⟨#[65]⟩ 68 = false := by decide
  have fA : hasB ⟨#[65]⟩ 65 = true := by decide
  have fB : hasB ⟨#[65]⟩ 66 = false := by decide
  have fI : hasB ⟨#[65]⟩ 73 = false := by decide
  have gD : inB 71 100 = false := by decide
  have gA : inB 71 97 = true := by decide
  have gB : inB 71 98 = false := by decide
  simp only [fD, fA, fB, fI, gD, gA, gB]
  unfold chkQ rfB
  rw [Bool.eq_iff_iff]
  simp
  try omega
theorem FM_41 : FM 41 = (⟨#[73]⟩, 0, 65535, 16, true) := by rfl
theorem RF_41 : RF 41 = 87 := by decide
theorem chk_41 (d a b i : Int) : chkA 41 d a b i = chkR 41 d a b i := by
  unfold chkA chkR
  rw [FM_41, RF_41]
  have fD : hasB ⟨#[73]⟩ 68 = false := by decide
  have fA : hasB ⟨#[73]⟩ 65 = false := by decide
  have fB : hasB ⟨#[73]⟩ 66 = false := by decide
  have fI : hasB ⟨#[73]⟩ 73 = true := by decide
  have gD : inB 87 100 = false := by decide
  have gA : inB 87 97 = false := by decide
  have gB : inB 87 98 = false := by decide
  simp only [fD, fA, fB, fI, gD, gA, gB]
  unfold chkQ rfB
  rw [Bool.eq_iff_iff]
  simp
  try omega
theorem FM_42 : FM 42 = (⟨#[73]⟩, 0, 65535, 16, true) := by rfl
theorem RF_42 : RF 42 = 87 := by decide
theorem chk_42 (d a b i : Int) : chkA 42 d a b i = chkR 42 d a b i := by
  unfold chkA chkR
  rw [FM_42, RF_42]
  have fD : hasB ⟨#[73]⟩ 68 = false := by decide
  have fA : hasB ⟨#[73]⟩ 65 = false := by decide
  have fB : hasB ⟨#[73]⟩ 66 = false := by decide
  have fI : hasB ⟨#[73]⟩ 73 = true := by decide
  have gD : inB 87 100 = false := by decide
  have gA : inB 87 97 = false := by decide
  have gB : inB 87 98 = false := by decide
  simp only [fD, fA, fB, fI, gD, gA, gB]
  unfold chkQ rfB
  rw [Bool.eq_iff_iff]
  simp
  try omega
open Go.RowKit
/-- Both Decodes answer one value. -/
def Same2 (v : Nat) : Prop := ∃ op d a b i er : Int, (∀ w, Calls Tryd.prog 33 #[.int .u32 v] w fun e w' => e = .returned (.tuple #[.agg #[.int .i64 op, .int .i64 d, .int .i64 a, .int .i64 b, .int .i64 i], .int .i64 er]) ∧ Below w.heap.size w w') ∧ (∀ w, Calls Tryd.prog 41 #[.int .u32 v] w fun e w' => e = .returned (.tuple #[.agg #[.int .i64 op, .int .i64 d, .int .i64 a, .int .i64 b, .int .i64 i], .int .i64 er]) ∧ Below w.heap.size w w')
theorem mask_fu (v p : Nat) (hv : v < 4294967296) : bits .and .u32 ((v : Int) / (p : Int)) 15 = ((v / p % 16 : Nat) : Int) := by
  have := mask_u32 (v / p) 4 (Nat.lt_of_le_of_lt (Nat.div_le_self _ _) hv) (by omega)
  rw [Int.natCast_ediv] at this
  exact this
theorem mask_fi (v p : Nat) (hv : v < 4294967296) : bits .and .i64 ((v : Int) / (p : Int)) 15 = ((v / p % 16 : Nat) : Int) := by
  have := mask_i64 (v / p) 4 (Nat.lt_of_le_of_lt (Nat.div_le_self _ _) hv) (by omega)
  rw [Int.natCast_ediv] at this
  exact this
theorem same_R (v o : Nat) (hv : v < 4294967296) (ho : v / 16777216 = o) (h1 : 1 ≤ o) (h2 : o ≤ 17) : Same2 v := by
  have ho' : (v : Int) / 16777216 = (o : Int) := by omega
  have hfm := FM_plain (n := (o : Int)) (by omega) (by omega)
  have hrf : RF (o : Int) = 82 := by unfold RF; rw [if_pos (by omega)]
  obtain ⟨d, hd⟩ : ∃ d, v / 1048576 % 16 = d := ⟨_, rfl⟩
  obtain ⟨a, ha⟩ : ∃ a, v / 65536 % 16 = a := ⟨_, rfl⟩
  obtain ⟨b, hb⟩ : ∃ b, v / 4096 % 16 = b := ⟨_, rfl⟩
  have ud := mask_fu v 1048576 hv; have ua := mask_fu v 65536 hv; have ub := mask_fu v 4096 hv
  have id := mask_fi v 1048576 hv; have ia := mask_fi v 65536 hv; have ib := mask_fi v 4096 hv
  rw [hd] at ud id; rw [ha] at ua ia; rw [hb] at ub ib
  have hc := chk_R (o := (o : Int)) (by omega) (by omega) d a b 0
  cases h : chkR o d a b 0 with
  | false =>
    rw [h] at hc
    exact ⟨_, _, _, _, _, _, fun w => decDAB_bad v o d a b w hv ho' (by omega) ud (by omega) ua (by omega) ub (by omega) hfm (fun W => encode_bad o d a b 0 W hc), fun w => rdecR_bad v o d a b w hv ho' (by omega) id (by omega) ia (by omega) ib (by omega) hrf (fun W => rencode_bad o d a b 0 W h)⟩
  | true =>
    rw [h] at hc
    have e1 := fun W => encode_ok o d a b 0 W hc (by omega) (by omega) (by omega) (by omega)
    have e2 := fun W => rencode_ok o d a b 0 W h (by omega) (by omega) (by omega) (by omega) (by omega) (by omega)
    rw [hfm] at e1
    have hw : encW 0 o d a b 0 = rencW (RF o) o d a b 0 := by
      rw [encW_0, headW_sum o d a b (by omega) (by omega) (by omega) (by omega)]
      unfold rencW
      rw [if_neg (by omega)]
      omega
    rw [← hw] at e2
    dsimp only at e1
    by_cases he : encW 0 o d a b 0 = (v : Int)
    · rw [he] at e1 e2
      exact ⟨_, _, _, _, _, _, fun w => decDAB_eq v o d a b w hv ho' (by omega) ud (by omega) ua (by omega) ub (by omega) hfm e1, fun w => rdecR_eq v o d a b w hv ho' (by omega) id (by omega) ia (by omega) ib (by omega) hrf e2⟩
    · have hu : (encW 0 o d a b 0 != (v : Int)) = true := by simpa using he
      exact ⟨_, _, _, _, _, _, fun w => decDAB_ne v o d a b _ w hv ho' (by omega) ud (by omega) ua (by omega) ub (by omega) hu hfm e1, fun w => rdecR_ne v o d a b _ w hv ho' (by omega) id (by omega) ia (by omega) ib (by omega) hu hrf e2⟩
end Go.Proofs.YtlgdfacaeahcaaaDoor
