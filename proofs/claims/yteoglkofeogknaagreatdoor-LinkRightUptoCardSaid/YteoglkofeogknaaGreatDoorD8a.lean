/- Walks: isa.Decode, by the fields that the operation has. Conditions: what each states. -/
import Derived.Test.YteoglkofeogknaaGreatDoorDC
set_option linter.unusedVariables false
set_option linter.unusedSimpArgs false
namespace Go.Proofs.YteoglkofeogknaaGreatDoor
open Go.RowKit
set_option maxRecDepth 100000 in
set_option maxHeartbeats 4000000 in
theorem decDAB_bad (v o d a b : Nat) (w : World) (hv : v < 4294967296) (ho : (v : Int) / 16777216 = (o : Int)) (ho2 : o ≤ 255) (hd : bits .and .u32 ((v : Int) / 1048576) 15 = (d : Int)) (hd2 : d ≤ 15) (ha : bits .and .u32 ((v : Int) / 65536) 15 = (a : Int)) (ha2 : a ≤ 15) (hb : bits .and .u32 ((v : Int) / 4096) 15 = (b : Int)) (hb2 : b ≤ 15) (hfm : FM o = (⟨#[68, 65, 66]⟩, 0, 0, 0, true)) (hE : ∀ W, Calls Tryz.prog 35 #[.agg #[.int .i64 o, .int .i64 d, .int .i64 a, .int .i64 b, .int .i64 0]] W fun e w' => e = .returned (.tuple #[.int .u32 0, .int .i64 20]) ∧ Below W.heap.size W w') :
    Calls Tryz.prog 34 #[.int .u32 v] w fun e w' => e = .returned (.tuple #[.agg #[.int .i64 0, .int .i64 0, .int .i64 0, .int .i64 0, .int .i64 0], .int .i64 20]) ∧ Below w.heap.size w w' := by
  have hF := fun W => formOf_any o W
  rw [show FMv o = .tuple #[.agg #[.string ⟨#[68, 65, 66]⟩, .int .i64 0, .int .i64 0, .int .i64 0], .bool true] by unfold FMv formV; rw [hfm]] at hF
  have HF := Lib.hid hF
  have HE := Lib.hid hE
  have HD := Lib.hid (fun W => has_any ⟨#[68, 65, 66]⟩ 0 0 0 68 W)
  rw [show hasB ⟨#[68, 65, 66]⟩ 68 = true by decide] at HD
  have HA := Lib.hid (fun W => has_any ⟨#[68, 65, 66]⟩ 0 0 0 65 W)
  rw [show hasB ⟨#[68, 65, 66]⟩ 65 = true by decide] at HA
  have HB := Lib.hid (fun W => has_any ⟨#[68, 65, 66]⟩ 0 0 0 66 W)
  rw [show hasB ⟨#[68, 65, 66]⟩ 66 = true by decide] at HB
  have HI := Lib.hid (fun W => has_any ⟨#[68, 65, 66]⟩ 0 0 0 73 W)
  rw [show hasB ⟨#[68, 65, 66]⟩ 73 = false by decide] at HI
  clear hF hfm hE
  have hp : (w.alloc (.cells #[.int .i64 0, .int .i64 0, .int .i64 0, .int .i64 0, .int .i64 0] 94)).heap.size = w.heap.size + 1 := by simp
  have hx0 := IAt.fresh (w.alloc (.cells #[.int .i64 0, .int .i64 0, .int .i64 0, .int .i64 0, .int .i64 0] 94)) o 0 0 0 0 94
  rw [hp] at hx0
  have HX0 := Lib.hid hx0
  have HR0 := Lib.hid ((IAt.fresh w 0 0 0 0 0 94).past (.cells #[.int .i64 o, .int .i64 0, .int .i64 0, .int .i64 0, .int .i64 0] 94))
  have HB0 := Lib.hid ((((Below.refl _ _).alloc (Nat.le_refl _) (.cells #[.int .i64 0, .int .i64 0, .int .i64 0, .int .i64 0, .int .i64 0] 94) : Below w.heap.size w _).alloc (by simp) (.cells #[.int .i64 o, .int .i64 0, .int .i64 0, .int .i64 0, .int .i64 0] 94)))
  clear hx0 hp
  go_enter Tryz.func34, Tryz.ntmps34
  go_wp2_with fail
  refine (HF.out _).mono ?_
  rintro e w1 ⟨rfl, hw⟩
  have HX1 := Lib.hid ((HX0.out.below hw).past (.cells #[.string ⟨#[68, 65, 66]⟩, .int .i64 0, .int .i64 0, .int .i64 0] 115))
  have HR1 := Lib.hid ((HR0.out.below hw).past (.cells #[.string ⟨#[68, 65, 66]⟩, .int .i64 0, .int .i64 0, .int .i64 0] 115))
  have HF1 := Lib.hid (FAt.fresh w1 ⟨#[68, 65, 66]⟩ 0 0 0 115)
  have HB1 := Lib.hid ((HB0.out.trans (hw.mono HB0.out.size)).alloc (HB0.out.trans (hw.mono HB0.out.size)).size (.cells #[.string ⟨#[68, 65, 66]⟩, .int .i64 0, .int .i64 0, .int .i64 0] 115))
  have HQ : Hid (w.heap.size + 1 ≠ w1.heap.size) := by have := hw.size; simp at this; show _ ≠ _; omega
  clear hw
  obtain ⟨⟨x0, x1, x2, x3, x4, _⟩, xf⟩ := HX1.out
  obtain ⟨f0, f1, f2, f3, _⟩ := HF1.out
  go_wp2_with fail
  refine (HD.out _).mono ?_
  rintro e w2 ⟨rfl, hw⟩
  clear x0 x1 x2 x3 x4 xf f0 f1 f2 f3
  have HX2 := Lib.hid (HX1.out.below hw)
  have HR2 := Lib.hid (HR1.out.below hw)
  have HF2 := Lib.hid (HF1.out.below hw)
  have HB2 := Lib.hid (HB1.out.trans (hw.mono HB1.out.size))
  clear hw
  obtain ⟨⟨x0, x1, x2, x3, x4, _⟩, xf⟩ := HX2.out
  obtain ⟨f0, f1, f2, f3, _⟩ := HF2.out
  have HX3 := Lib.hid (HX2.out.set1 d)
  have HR3 := Lib.hid (HR2.out.off (q := w.heap.size + 1) (j := 1) (by omega) (.int .i64 d))
  have HF3 := Lib.hid (HF2.out.off (p := w.heap.size + 1) (j := 1) HQ.out (.int .i64 d))
  have HB3 := Lib.hid (HB2.out.setCell (p := ⟨w.heap.size + 1, 1, none⟩) (Nat.le_succ _) (.int .i64 d))
  obtain ⟨⟨y0, y1, y2, y3, y4, _⟩, yf⟩ := HX3.out
  obtain ⟨g0, g1, g2, g3, _⟩ := HF3.out
  go_wp2_with fail
  clear y0 y1 y2 y3 y4 yf g0 g1 g2 g3
  refine (HA.out _).mono ?_
  rintro e w4 ⟨rfl, hw⟩
  clear x0 x1 x2 x3 x4 xf f0 f1 f2 f3
  have HX4 := Lib.hid (HX3.out.below hw)
  have HR4 := Lib.hid (HR3.out.below hw)
  have HF4 := Lib.hid (HF3.out.below hw)
  have HB4 := Lib.hid (HB3.out.trans (hw.mono HB3.out.size))
  clear hw
  obtain ⟨⟨x0, x1, x2, x3, x4, _⟩, xf⟩ := HX4.out
  obtain ⟨f0, f1, f2, f3, _⟩ := HF4.out
  have HX5 := Lib.hid (HX4.out.set2 a)
  have HR5 := Lib.hid (HR4.out.off (q := w.heap.size + 1) (j := 2) (by omega) (.int .i64 a))
  have HF5 := Lib.hid (HF4.out.off (p := w.heap.size + 1) (j := 2) HQ.out (.int .i64 a))
  have HB5 := Lib.hid (HB4.out.setCell (p := ⟨w.heap.size + 1, 2, none⟩) (Nat.le_succ _) (.int .i64 a))
  obtain ⟨⟨y0, y1, y2, y3, y4, _⟩, yf⟩ := HX5.out
  obtain ⟨g0, g1, g2, g3, _⟩ := HF5.out
  go_wp2_with fail
  clear y0 y1 y2 y3 y4 yf g0 g1 g2 g3
  refine (HB.out _).mono ?_
  rintro e w6 ⟨rfl, hw⟩
  clear x0 x1 x2 x3 x4 xf f0 f1 f2 f3
  have HX6 := Lib.hid (HX5.out.below hw)
  have HR6 := Lib.hid (HR5.out.below hw)
  have HF6 := Lib.hid (HF5.out.below hw)
  have HB6 := Lib.hid (HB5.out.trans (hw.mono HB5.out.size))
  clear hw
  obtain ⟨⟨x0, x1, x2, x3, x4, _⟩, xf⟩ := HX6.out
  obtain ⟨f0, f1, f2, f3, _⟩ := HF6.out
  have HX7 := Lib.hid (HX6.out.set3 b)
  have HR7 := Lib.hid (HR6.out.off (q := w.heap.size + 1) (j := 3) (by omega) (.int .i64 b))
  have HF7 := Lib.hid (HF6.out.off (p := w.heap.size + 1) (j := 3) HQ.out (.int .i64 b))
  have HB7 := Lib.hid (HB6.out.setCell (p := ⟨w.heap.size + 1, 3, none⟩) (Nat.le_succ _) (.int .i64 b))
  obtain ⟨⟨y0, y1, y2, y3, y4, _⟩, yf⟩ := HX7.out
  obtain ⟨g0, g1, g2, g3, _⟩ := HF7.out
  go_wp2_with fail
  clear y0 y1 y2 y3 y4 yf g0 g1 g2 g3
  refine (HI.out _).mono ?_
  rintro e w8 ⟨rfl, hw⟩
  clear x0 x1 x2 x3 x4 xf f0 f1 f2 f3
  have HX8 := Lib.hid (HX7.out.below hw)
  have HR8 := Lib.hid (HR7.out.below hw)
  have HF8 := Lib.hid (HF7.out.below hw)
  have HB8 := Lib.hid (HB7.out.trans (hw.mono HB7.out.size))
  clear hw
  obtain ⟨⟨x0, x1, x2, x3, x4, _⟩, xf⟩ := HX8.out
  obtain ⟨f0, f1, f2, f3, _⟩ := HF8.out
  go_wp2_with fail
  refine (HE.out _).mono ?_
  rintro e w9 ⟨rfl, hw⟩
  clear x0 x1 x2 x3 x4 xf f0 f1 f2 f3
  have HX9 := Lib.hid (HX8.out.below hw)
  have HR9 := Lib.hid (HR8.out.below hw)
  have HB9 := Lib.hid (HB8.out.trans (hw.mono HB8.out.size))
  clear hw
  obtain ⟨⟨x0, x1, x2, x3, x4, _⟩, xf⟩ := HX9.out
  obtain ⟨⟨r0, r1, r2, r3, r4, _⟩, rf⟩ := HR9.out
  go_wp2_with fail
  refine bodyPost_ret (v := .tuple #[.agg #[.int .i64 0, .int .i64 0, .int .i64 0, .int .i64 0, .int .i64 0], .int .i64 20]) (by simp [results, Tryz.results34, r0, r1, r2, r3, r4, go_sem]) rfl ?_
  exact ⟨rfl, ((((HB9.out.setCell (p := ⟨w.heap.size, 0, none⟩) (Nat.le_refl _) _).setCell (p := ⟨w.heap.size, 1, none⟩) (Nat.le_refl _) _).setCell (p := ⟨w.heap.size, 2, none⟩) (Nat.le_refl _) _).setCell (p := ⟨w.heap.size, 3, none⟩) (Nat.le_refl _) _).setCell (p := ⟨w.heap.size, 4, none⟩) (Nat.le_refl _) _⟩
set_option maxRecDepth 100000 in
set_option maxHeartbeats 4000000 in
theorem decDAB_ne (v o d a b : Nat) (u : Int) (w : World) (hv : v < 4294967296) (ho : (v : Int) / 16777216 = (o : Int)) (ho2 : o ≤ 255) (hd : bits .and .u32 ((v : Int) / 1048576) 15 = (d : Int)) (hd2 : d ≤ 15) (ha : bits .and .u32 ((v : Int) / 65536) 15 = (a : Int)) (ha2 : a ≤ 15) (hb : bits .and .u32 ((v : Int) / 4096) 15 = (b : Int)) (hb2 : b ≤ 15) (hu : (u != (v : Int)) = true) (hfm : FM o = (⟨#[68, 65, 66]⟩, 0, 0, 0, true)) (hE : ∀ W, Calls Tryz.prog 35 #[.agg #[.int .i64 o, .int .i64 d, .int .i64 a, .int .i64 b, .int .i64 0]] W fun e w' => e = .returned (.tuple #[.int .u32 u, .int .i64 0]) ∧ Below W.heap.size W w') :
    Calls Tryz.prog 34 #[.int .u32 v] w fun e w' => e = .returned (.tuple #[.agg #[.int .i64 0, .int .i64 0, .int .i64 0, .int .i64 0, .int .i64 0], .int .i64 20]) ∧ Below w.heap.size w w' := by
  have hF := fun W => formOf_any o W
  rw [show FMv o = .tuple #[.agg #[.string ⟨#[68, 65, 66]⟩, .int .i64 0, .int .i64 0, .int .i64 0], .bool true] by unfold FMv formV; rw [hfm]] at hF
  have HF := Lib.hid hF
  have HE := Lib.hid hE
  have HD := Lib.hid (fun W => has_any ⟨#[68, 65, 66]⟩ 0 0 0 68 W)
  rw [show hasB ⟨#[68, 65, 66]⟩ 68 = true by decide] at HD
  have HA := Lib.hid (fun W => has_any ⟨#[68, 65, 66]⟩ 0 0 0 65 W)
  rw [show hasB ⟨#[68, 65, 66]⟩ 65 = true by decide] at HA
  have HB := Lib.hid (fun W => has_any ⟨#[68, 65, 66]⟩ 0 0 0 66 W)
  rw [show hasB ⟨#[68, 65, 66]⟩ 66 = true by decide] at HB
  have HI := Lib.hid (fun W => has_any ⟨#[68, 65, 66]⟩ 0 0 0 73 W)
  rw [show hasB ⟨#[68, 65, 66]⟩ 73 = false by decide] at HI
  clear hF hfm hE
  have hp : (w.alloc (.cells #[.int .i64 0, .int .i64 0, .int .i64 0, .int .i64 0, .int .i64 0] 94)).heap.size = w.heap.size + 1 := by simp
  have hx0 := IAt.fresh (w.alloc (.cells #[.int .i64 0, .int .i64 0, .int .i64 0, .int .i64 0, .int .i64 0] 94)) o 0 0 0 0 94
  rw [hp] at hx0
  have HX0 := Lib.hid hx0
  have HR0 := Lib.hid ((IAt.fresh w 0 0 0 0 0 94).past (.cells #[.int .i64 o, .int .i64 0, .int .i64 0, .int .i64 0, .int .i64 0] 94))
  have HB0 := Lib.hid ((((Below.refl _ _).alloc (Nat.le_refl _) (.cells #[.int .i64 0, .int .i64 0, .int .i64 0, .int .i64 0, .int .i64 0] 94) : Below w.heap.size w _).alloc (by simp) (.cells #[.int .i64 o, .int .i64 0, .int .i64 0, .int .i64 0, .int .i64 0] 94)))
  clear hx0 hp
  go_enter Tryz.func34, Tryz.ntmps34
  go_wp2_with fail
  refine (HF.out _).mono ?_
  rintro e w1 ⟨rfl, hw⟩
  have HX1 := Lib.hid ((HX0.out.below hw).past (.cells #[.string ⟨#[68, 65, 66]⟩, .int .i64 0, .int .i64 0, .int .i64 0] 115))
  have HR1 := Lib.hid ((HR0.out.below hw).past (.cells #[.string ⟨#[68, 65, 66]⟩, .int .i64 0, .int .i64 0, .int .i64 0] 115))
  have HF1 := Lib.hid (FAt.fresh w1 ⟨#[68, 65, 66]⟩ 0 0 0 115)
  have HB1 := Lib.hid ((HB0.out.trans (hw.mono HB0.out.size)).alloc (HB0.out.trans (hw.mono HB0.out.size)).size (.cells #[.string ⟨#[68, 65, 66]⟩, .int .i64 0, .int .i64 0, .int .i64 0] 115))
  have HQ : Hid (w.heap.size + 1 ≠ w1.heap.size) := by have := hw.size; simp at this; show _ ≠ _; omega
  clear hw
  obtain ⟨⟨x0, x1, x2, x3, x4, _⟩, xf⟩ := HX1.out
  obtain ⟨f0, f1, f2, f3, _⟩ := HF1.out
  go_wp2_with fail
  refine (HD.out _).mono ?_
  rintro e w2 ⟨rfl, hw⟩
  clear x0 x1 x2 x3 x4 xf f0 f1 f2 f3
  have HX2 := Lib.hid (HX1.out.below hw)
  have HR2 := Lib.hid (HR1.out.below hw)
  have HF2 := Lib.hid (HF1.out.below hw)
  have HB2 := Lib.hid (HB1.out.trans (hw.mono HB1.out.size))
  clear hw
  obtain ⟨⟨x0, x1, x2, x3, x4, _⟩, xf⟩ := HX2.out
  obtain ⟨f0, f1, f2, f3, _⟩ := HF2.out
  have HX3 := Lib.hid (HX2.out.set1 d)
  have HR3 := Lib.hid (HR2.out.off (q := w.heap.size + 1) (j := 1) (by omega) (.int .i64 d))
  have HF3 := Lib.hid (HF2.out.off (p := w.heap.size + 1) (j := 1) HQ.out (.int .i64 d))
  have HB3 := Lib.hid (HB2.out.setCell (p := ⟨w.heap.size + 1, 1, none⟩) (Nat.le_succ _) (.int .i64 d))
  obtain ⟨⟨y0, y1, y2, y3, y4, _⟩, yf⟩ := HX3.out
  obtain ⟨g0, g1, g2, g3, _⟩ := HF3.out
  go_wp2_with fail
  clear y0 y1 y2 y3 y4 yf g0 g1 g2 g3
  refine (HA.out _).mono ?_
  rintro e w4 ⟨rfl, hw⟩
  clear x0 x1 x2 x3 x4 xf f0 f1 f2 f3
  have HX4 := Lib.hid (HX3.out.below hw)
  have HR4 := Lib.hid (HR3.out.below hw)
  have HF4 := Lib.hid (HF3.out.below hw)
  have HB4 := Lib.hid (HB3.out.trans (hw.mono HB3.out.size))
  clear hw
  obtain ⟨⟨x0, x1, x2, x3, x4, _⟩, xf⟩ := HX4.out
  obtain ⟨f0, f1, f2, f3, _⟩ := HF4.out
  have HX5 := Lib.hid (HX4.out.set2 a)
  have HR5 := Lib.hid (HR4.out.off (q := w.heap.size + 1) (j := 2) (by omega) (.int .i64 a))
  have HF5 := Lib.hid (HF4.out.off (p := w.heap.size + 1) (j := 2) HQ.out (.int .i64 a))
  have HB5 := Lib.hid (HB4.out.setCell (p := ⟨w.heap.size + 1, 2, none⟩) (Nat.le_succ _) (.int .i64 a))
  obtain ⟨⟨y0, y1, y2, y3, y4, _⟩, yf⟩ := HX5.out
  obtain ⟨g0, g1, g2, g3, _⟩ := HF5.out
  go_wp2_with fail
  clear y0 y1 y2 y3 y4 yf g0 g1 g2 g3
  refine (HB.out _).mono ?_
  rintro e w6 ⟨rfl, hw⟩
  clear x0 x1 x2 x3 x4 xf f0 f1 f2 f3
  have HX6 := Lib.hid (HX5.out.below hw)
  have HR6 := Lib.hid (HR5.out.below hw)
  have HF6 := Lib.hid (HF5.out.below hw)
  have HB6 := Lib.hid (HB5.out.trans (hw.mono HB5.out.size))
  clear hw
  obtain ⟨⟨x0, x1, x2, x3, x4, _⟩, xf⟩ := HX6.out
  obtain ⟨f0, f1, f2, f3, _⟩ := HF6.out
  have HX7 := Lib.hid (HX6.out.set3 b)
  have HR7 := Lib.hid (HR6.out.off (q := w.heap.size + 1) (j := 3) (by omega) (.int .i64 b))
  have HF7 := Lib.hid (HF6.out.off (p := w.heap.size + 1) (j := 3) HQ.out (.int .i64 b))
  have HB7 := Lib.hid (HB6.out.setCell (p := ⟨w.heap.size + 1, 3, none⟩) (Nat.le_succ _) (.int .i64 b))
  obtain ⟨⟨y0, y1, y2, y3, y4, _⟩, yf⟩ := HX7.out
  obtain ⟨g0, g1, g2, g3, _⟩ := HF7.out
  go_wp2_with fail
  clear y0 y1 y2 y3 y4 yf g0 g1 g2 g3
  refine (HI.out _).mono ?_
  rintro e w8 ⟨rfl, hw⟩
  clear x0 x1 x2 x3 x4 xf f0 f1 f2 f3
  have HX8 := Lib.hid (HX7.out.below hw)
  have HR8 := Lib.hid (HR7.out.below hw)
  have HF8 := Lib.hid (HF7.out.below hw)
  have HB8 := Lib.hid (HB7.out.trans (hw.mono HB7.out.size))
  clear hw
  obtain ⟨⟨x0, x1, x2, x3, x4, _⟩, xf⟩ := HX8.out
  obtain ⟨f0, f1, f2, f3, _⟩ := HF8.out
  go_wp2_with fail
  refine (HE.out _).mono ?_
  rintro e w9 ⟨rfl, hw⟩
  clear x0 x1 x2 x3 x4 xf f0 f1 f2 f3
  have HX9 := Lib.hid (HX8.out.below hw)
  have HR9 := Lib.hid (HR8.out.below hw)
  have HB9 := Lib.hid (HB8.out.trans (hw.mono HB8.out.size))
  clear hw
  obtain ⟨⟨x0, x1, x2, x3, x4, _⟩, xf⟩ := HX9.out
  obtain ⟨⟨r0, r1, r2, r3, r4, _⟩, rf⟩ := HR9.out
  go_wp2_with fail
  refine bodyPost_ret (v := .tuple #[.agg #[.int .i64 0, .int .i64 0, .int .i64 0, .int .i64 0, .int .i64 0], .int .i64 20]) (by simp [results, Tryz.results34, r0, r1, r2, r3, r4, go_sem]) rfl ?_
  exact ⟨rfl, ((((HB9.out.setCell (p := ⟨w.heap.size, 0, none⟩) (Nat.le_refl _) _).setCell (p := ⟨w.heap.size, 1, none⟩) (Nat.le_refl _) _).setCell (p := ⟨w.heap.size, 2, none⟩) (Nat.le_refl _) _).setCell (p := ⟨w.heap.size, 3, none⟩) (Nat.le_refl _) _).setCell (p := ⟨w.heap.size, 4, none⟩) (Nat.le_refl _) _⟩
set_option maxRecDepth 100000 in
set_option maxHeartbeats 4000000 in
theorem decDAB_eq (v o d a b : Nat) (w : World) (hv : v < 4294967296) (ho : (v : Int) / 16777216 = (o : Int)) (ho2 : o ≤ 255) (hd : bits .and .u32 ((v : Int) / 1048576) 15 = (d : Int)) (hd2 : d ≤ 15) (ha : bits .and .u32 ((v : Int) / 65536) 15 = (a : Int)) (ha2 : a ≤ 15) (hb : bits .and .u32 ((v : Int) / 4096) 15 = (b : Int)) (hb2 : b ≤ 15) (hfm : FM o = (⟨#[68, 65, 66]⟩, 0, 0, 0, true)) (hE : ∀ W, Calls Tryz.prog 35 #[.agg #[.int .i64 o, .int .i64 d, .int .i64 a, .int .i64 b, .int .i64 0]] W fun e w' => e = .returned (.tuple #[.int .u32 v, .int .i64 0]) ∧ Below W.heap.size W w') :
    Calls Tryz.prog 34 #[.int .u32 v] w fun e w' => e = .returned (.tuple #[.agg #[.int .i64 o, .int .i64 d, .int .i64 a, .int .i64 b, .int .i64 0], .int .i64 0]) ∧ Below w.heap.size w w' := by
  have hF := fun W => formOf_any o W
  rw [show FMv o = .tuple #[.agg #[.string ⟨#[68, 65, 66]⟩, .int .i64 0, .int .i64 0, .int .i64 0], .bool true] by unfold FMv formV; rw [hfm]] at hF
  have HF := Lib.hid hF
  have HE := Lib.hid hE
  have HD := Lib.hid (fun W => has_any ⟨#[68, 65, 66]⟩ 0 0 0 68 W)
  rw [show hasB ⟨#[68, 65, 66]⟩ 68 = true by decide] at HD
  have HA := Lib.hid (fun W => has_any ⟨#[68, 65, 66]⟩ 0 0 0 65 W)
  rw [show hasB ⟨#[68, 65, 66]⟩ 65 = true by decide] at HA
  have HB := Lib.hid (fun W => has_any ⟨#[68, 65, 66]⟩ 0 0 0 66 W)
  rw [show hasB ⟨#[68, 65, 66]⟩ 66 = true by decide] at HB
  have HI := Lib.hid (fun W => has_any ⟨#[68, 65, 66]⟩ 0 0 0 73 W)
  rw [show hasB ⟨#[68, 65, 66]⟩ 73 = false by decide] at HI
  clear hF hfm hE
  have hp : (w.alloc (.cells #[.int .i64 0, .int .i64 0, .int .i64 0, .int .i64 0, .int .i64 0] 94)).heap.size = w.heap.size + 1 := by simp
  have hx0 := IAt.fresh (w.alloc (.cells #[.int .i64 0, .int .i64 0, .int .i64 0, .int .i64 0, .int .i64 0] 94)) o 0 0 0 0 94
  rw [hp] at hx0
  have HX0 := Lib.hid hx0
  have HR0 := Lib.hid ((IAt.fresh w 0 0 0 0 0 94).past (.cells #[.int .i64 o, .int .i64 0, .int .i64 0, .int .i64 0, .int .i64 0] 94))
  have HB0 := Lib.hid ((((Below.refl _ _).alloc (Nat.le_refl _) (.cells #[.int .i64 0, .int .i64 0, .int .i64 0, .int .i64 0, .int .i64 0] 94) : Below w.heap.size w _).alloc (by simp) (.cells #[.int .i64 o, .int .i64 0, .int .i64 0, .int .i64 0, .int .i64 0] 94)))
  clear hx0 hp
  go_enter Tryz.func34, Tryz.ntmps34
  go_wp2_with fail
  refine (HF.out _).mono ?_
  rintro e w1 ⟨rfl, hw⟩
  have HX1 := Lib.hid ((HX0.out.below hw).past (.cells #[.string ⟨#[68, 65, 66]⟩, .int .i64 0, .int .i64 0, .int .i64 0] 115))
  have HR1 := Lib.hid ((HR0.out.below hw).past (.cells #[.string ⟨#[68, 65, 66]⟩, .int .i64 0, .int .i64 0, .int .i64 0] 115))
  have HF1 := Lib.hid (FAt.fresh w1 ⟨#[68, 65, 66]⟩ 0 0 0 115)
  have HB1 := Lib.hid ((HB0.out.trans (hw.mono HB0.out.size)).alloc (HB0.out.trans (hw.mono HB0.out.size)).size (.cells #[.string ⟨#[68, 65, 66]⟩, .int .i64 0, .int .i64 0, .int .i64 0] 115))
  have HQ : Hid (w.heap.size + 1 ≠ w1.heap.size) := by have := hw.size; simp at this; show _ ≠ _; omega
  clear hw
  obtain ⟨⟨x0, x1, x2, x3, x4, _⟩, xf⟩ := HX1.out
  obtain ⟨f0, f1, f2, f3, _⟩ := HF1.out
  go_wp2_with fail
  refine (HD.out _).mono ?_
  rintro e w2 ⟨rfl, hw⟩
  clear x0 x1 x2 x3 x4 xf f0 f1 f2 f3
  have HX2 := Lib.hid (HX1.out.below hw)
  have HR2 := Lib.hid (HR1.out.below hw)
  have HF2 := Lib.hid (HF1.out.below hw)
  have HB2 := Lib.hid (HB1.out.trans (hw.mono HB1.out.size))
  clear hw
  obtain ⟨⟨x0, x1, x2, x3, x4, _⟩, xf⟩ := HX2.out
  obtain ⟨f0, f1, f2, f3, _⟩ := HF2.out
  have HX3 := Lib.hid (HX2.out.set1 d)
  have HR3 := Lib.hid (HR2.out.off (q := w.heap.size + 1) (j := 1) (by omega) (.int .i64 d))
  have HF3 := Lib.hid (HF2.out.off (p := w.heap.size + 1) (j := 1) HQ.out (.int .i64 d))
  have HB3 := Lib.hid (HB2.out.setCell (p := ⟨w.heap.size + 1, 1, none⟩) (Nat.le_succ _) (.int .i64 d))
  obtain ⟨⟨y0, y1, y2, y3, y4, _⟩, yf⟩ := HX3.out
  obtain ⟨g0, g1, g2, g3, _⟩ := HF3.out
  go_wp2_with fail
  clear y0 y1 y2 y3 y4 yf g0 g1 g2 g3
  refine (HA.out _).mono ?_
  rintro e w4 ⟨rfl, hw⟩
  clear x0 x1 x2 x3 x4 xf f0 f1 f2 f3
  have HX4 := Lib.hid (HX3.out.below hw)
  have HR4 := Lib.hid (HR3.out.below hw)
  have HF4 := Lib.hid (HF3.out.below hw)
  have HB4 := Lib.hid (HB3.out.trans (hw.mono HB3.out.size))
  clear hw
  obtain ⟨⟨x0, x1, x2, x3, x4, _⟩, xf⟩ := HX4.out
  obtain ⟨f0, f1, f2, f3, _⟩ := HF4.out
  have HX5 := Lib.hid (HX4.out.set2 a)
  have HR5 := Lib.hid (HR4.out.off (q := w.heap.size + 1) (j := 2) (by omega) (.int .i64 a))
  have HF5 := Lib.hid (HF4.out.off (p := w.heap.size + 1) (j := 2) HQ.out (.int .i64 a))
  have HB5 := Lib.hid (HB4.out.setCell (p := ⟨w.heap.size + 1, 2, none⟩) (Nat.le_succ _) (.int .i64 a))
  obtain ⟨⟨y0, y1, y2, y3, y4, _⟩, yf⟩ := HX5.out
  obtain ⟨g0, g1, g2, g3, _⟩ := HF5.out
  go_wp2_with fail
  clear y0 y1 y2 y3 y4 yf g0 g1 g2 g3
  refine (HB.out _).mono ?_
  rintro e w6 ⟨rfl, hw⟩
  clear x0 x1 x2 x3 x4 xf f0 f1 f2 f3
  have HX6 := Lib.hid (HX5.out.below hw)
  have HR6 := Lib.hid (HR5.out.below hw)
  have HF6 := Lib.hid (HF5.out.below hw)
  have HB6 := Lib.hid (HB5.out.trans (hw.mono HB5.out.size))
  clear hw
  obtain ⟨⟨x0, x1, x2, x3, x4, _⟩, xf⟩ := HX6.out
  obtain ⟨f0, f1, f2, f3, _⟩ := HF6.out
  have HX7 := Lib.hid (HX6.out.set3 b)
  have HR7 := Lib.hid (HR6.out.off (q := w.heap.size + 1) (j := 3) (by omega) (.int .i64 b))
  have HF7 := Lib.hid (HF6.out.off (p := w.heap.size + 1) (j := 3) HQ.out (.int .i64 b))
  have HB7 := Lib.hid (HB6.out.setCell (p := ⟨w.heap.size + 1, 3, none⟩) (Nat.le_succ _) (.int .i64 b))
  obtain ⟨⟨y0, y1, y2, y3, y4, _⟩, yf⟩ := HX7.out
  obtain ⟨g0, g1, g2, g3, _⟩ := HF7.out
  go_wp2_with fail
  clear y0 y1 y2 y3 y4 yf g0 g1 g2 g3
  refine (HI.out _).mono ?_
  rintro e w8 ⟨rfl, hw⟩
  clear x0 x1 x2 x3 x4 xf f0 f1 f2 f3
  have HX8 := Lib.hid (HX7.out.below hw)
  have HR8 := Lib.hid (HR7.out.below hw)
  have HF8 := Lib.hid (HF7.out.below hw)
  have HB8 := Lib.hid (HB7.out.trans (hw.mono HB7.out.size))
  clear hw
  obtain ⟨⟨x0, x1, x2, x3, x4, _⟩, xf⟩ := HX8.out
  obtain ⟨f0, f1, f2, f3, _⟩ := HF8.out
  go_wp2_with fail
  refine (HE.out _).mono ?_
  rintro e w9 ⟨rfl, hw⟩
  clear x0 x1 x2 x3 x4 xf f0 f1 f2 f3
  have HX9 := Lib.hid (HX8.out.below hw)
  have HR9 := Lib.hid (HR8.out.below hw)
  have HB9 := Lib.hid (HB8.out.trans (hw.mono HB8.out.size))
  clear hw
  obtain ⟨⟨x0, x1, x2, x3, x4, _⟩, xf⟩ := HX9.out
  obtain ⟨⟨r0, r1, r2, r3, r4, _⟩, rf⟩ := HR9.out
  go_wp2_with fail
  refine bodyPost_ret (v := .tuple #[.agg #[.int .i64 o, .int .i64 d, .int .i64 a, .int .i64 b, .int .i64 0], .int .i64 0]) (by simp [results, Tryz.results34, r0, r1, r2, r3, r4, go_sem]) rfl ?_
  exact ⟨rfl, ((((HB9.out.setCell (p := ⟨w.heap.size, 0, none⟩) (Nat.le_refl _) _).setCell (p := ⟨w.heap.size, 1, none⟩) (Nat.le_refl _) _).setCell (p := ⟨w.heap.size, 2, none⟩) (Nat.le_refl _) _).setCell (p := ⟨w.heap.size, 3, none⟩) (Nat.le_refl _) _).setCell (p := ⟨w.heap.size, 4, none⟩) (Nat.le_refl _) _⟩
set_option maxRecDepth 100000 in
set_option maxHeartbeats 4000000 in
theorem decDAIn_bad (v o d a : Nat) (m : Nat) (hi : Int) (z : Int) (w : World) (hv : v < 4294967296) (ho : (v : Int) / 16777216 = (o : Int)) (ho2 : o ≤ 255) (hd : bits .and .u32 ((v : Int) / 1048576) 15 = (d : Int)) (hd2 : d ≤ 15) (ha : bits .and .u32 ((v : Int) / 65536) 15 = (a : Int)) (ha2 : a ≤ 15) (hm : bits .and .u32 (v : Int) 65535 = (m : Int)) (hm2 : m ≤ 65535) (hz : sg16 v = z) (hz1 : -8388608 ≤ z) (hz2 : z ≤ 8388607) (hfm : FM o = (⟨#[68, 65, 73]⟩, (-32768), hi, 16, true)) (hE : ∀ W, Calls Tryz.prog 35 #[.agg #[.int .i64 o, .int .i64 d, .int .i64 a, .int .i64 0, .int .i64 z]] W fun e w' => e = .returned (.tuple #[.int .u32 0, .int .i64 20]) ∧ Below W.heap.size W w') :
    Calls Tryz.prog 34 #[.int .u32 v] w fun e w' => e = .returned (.tuple #[.agg #[.int .i64 0, .int .i64 0, .int .i64 0, .int .i64 0, .int .i64 0], .int .i64 20]) ∧ Below w.heap.size w w' := by
  have hF := fun W => formOf_any o W
  rw [show FMv o = .tuple #[.agg #[.string ⟨#[68, 65, 73]⟩, .int .i64 (-32768), .int .i64 hi, .int .i64 16], .bool true] by unfold FMv formV; rw [hfm]] at hF
  have HF := Lib.hid hF
  have HE := Lib.hid hE
  have HD := Lib.hid (fun W => has_any ⟨#[68, 65, 73]⟩ (-32768) hi 16 68 W)
  rw [show hasB ⟨#[68, 65, 73]⟩ 68 = true by decide] at HD
  have HA := Lib.hid (fun W => has_any ⟨#[68, 65, 73]⟩ (-32768) hi 16 65 W)
  rw [show hasB ⟨#[68, 65, 73]⟩ 65 = true by decide] at HA
  have HB := Lib.hid (fun W => has_any ⟨#[68, 65, 73]⟩ (-32768) hi 16 66 W)
  rw [show hasB ⟨#[68, 65, 73]⟩ 66 = false by decide] at HB
  have HI := Lib.hid (fun W => has_any ⟨#[68, 65, 73]⟩ (-32768) hi 16 73 W)
  rw [show hasB ⟨#[68, 65, 73]⟩ 73 = true by decide] at HI
  have hext := fun W => ext16_any v W hv
  rw [hz] at hext
  have HX9 := Lib.hid hext
  have HS9 := Lib.hid (fun W => signed_word z W (by omega) (by omega))
  clear hext hz
  clear hF hfm hE
  have hp : (w.alloc (.cells #[.int .i64 0, .int .i64 0, .int .i64 0, .int .i64 0, .int .i64 0] 94)).heap.size = w.heap.size + 1 := by simp
  have hx0 := IAt.fresh (w.alloc (.cells #[.int .i64 0, .int .i64 0, .int .i64 0, .int .i64 0, .int .i64 0] 94)) o 0 0 0 0 94
  rw [hp] at hx0
  have HX0 := Lib.hid hx0
  have HR0 := Lib.hid ((IAt.fresh w 0 0 0 0 0 94).past (.cells #[.int .i64 o, .int .i64 0, .int .i64 0, .int .i64 0, .int .i64 0] 94))
  have HB0 := Lib.hid ((((Below.refl _ _).alloc (Nat.le_refl _) (.cells #[.int .i64 0, .int .i64 0, .int .i64 0, .int .i64 0, .int .i64 0] 94) : Below w.heap.size w _).alloc (by simp) (.cells #[.int .i64 o, .int .i64 0, .int .i64 0, .int .i64 0, .int .i64 0] 94)))
  clear hx0 hp
  go_enter Tryz.func34, Tryz.ntmps34
  go_wp2_with fail
  refine (HF.out _).mono ?_
  rintro e w1 ⟨rfl, hw⟩
  have HX1 := Lib.hid ((HX0.out.below hw).past (.cells #[.string ⟨#[68, 65, 73]⟩, .int .i64 (-32768), .int .i64 hi, .int .i64 16] 115))
  have HR1 := Lib.hid ((HR0.out.below hw).past (.cells #[.string ⟨#[68, 65, 73]⟩, .int .i64 (-32768), .int .i64 hi, .int .i64 16] 115))
  have HF1 := Lib.hid (FAt.fresh w1 ⟨#[68, 65, 73]⟩ (-32768) hi 16 115)
  have HB1 := Lib.hid ((HB0.out.trans (hw.mono HB0.out.size)).alloc (HB0.out.trans (hw.mono HB0.out.size)).size (.cells #[.string ⟨#[68, 65, 73]⟩, .int .i64 (-32768), .int .i64 hi, .int .i64 16] 115))
  have HQ : Hid (w.heap.size + 1 ≠ w1.heap.size) := by have := hw.size; simp at this; show _ ≠ _; omega
  clear hw
  obtain ⟨⟨x0, x1, x2, x3, x4, _⟩, xf⟩ := HX1.out
  obtain ⟨f0, f1, f2, f3, _⟩ := HF1.out
  go_wp2_with fail
  refine (HD.out _).mono ?_
  rintro e w2 ⟨rfl, hw⟩
  clear x0 x1 x2 x3 x4 xf f0 f1 f2 f3
  have HX2 := Lib.hid (HX1.out.below hw)
  have HR2 := Lib.hid (HR1.out.below hw)
  have HF2 := Lib.hid (HF1.out.below hw)
  have HB2 := Lib.hid (HB1.out.trans (hw.mono HB1.out.size))
  clear hw
  obtain ⟨⟨x0, x1, x2, x3, x4, _⟩, xf⟩ := HX2.out
  obtain ⟨f0, f1, f2, f3, _⟩ := HF2.out
  have HX3 := Lib.hid (HX2.out.set1 d)
  have HR3 := Lib.hid (HR2.out.off (q := w.heap.size + 1) (j := 1) (by omega) (.int .i64 d))
  have HF3 := Lib.hid (HF2.out.off (p := w.heap.size + 1) (j := 1) HQ.out (.int .i64 d))
  have HB3 := Lib.hid (HB2.out.setCell (p := ⟨w.heap.size + 1, 1, none⟩) (Nat.le_succ _) (.int .i64 d))
  obtain ⟨⟨y0, y1, y2, y3, y4, _⟩, yf⟩ := HX3.out
  obtain ⟨g0, g1, g2, g3, _⟩ := HF3.out
  go_wp2_with fail
  clear y0 y1 y2 y3 y4 yf g0 g1 g2 g3
  refine (HA.out _).mono ?_
  rintro e w4 ⟨rfl, hw⟩
  clear x0 x1 x2 x3 x4 xf f0 f1 f2 f3
  have HX4 := Lib.hid (HX3.out.below hw)
  have HR4 := Lib.hid (HR3.out.below hw)
  have HF4 := Lib.hid (HF3.out.below hw)
  have HB4 := Lib.hid (HB3.out.trans (hw.mono HB3.out.size))
  clear hw
  obtain ⟨⟨x0, x1, x2, x3, x4, _⟩, xf⟩ := HX4.out
  obtain ⟨f0, f1, f2, f3, _⟩ := HF4.out
  have HX5 := Lib.hid (HX4.out.set2 a)
  have HR5 := Lib.hid (HR4.out.off (q := w.heap.size + 1) (j := 2) (by omega) (.int .i64 a))
  have HF5 := Lib.hid (HF4.out.off (p := w.heap.size + 1) (j := 2) HQ.out (.int .i64 a))
  have HB5 := Lib.hid (HB4.out.setCell (p := ⟨w.heap.size + 1, 2, none⟩) (Nat.le_succ _) (.int .i64 a))
  obtain ⟨⟨y0, y1, y2, y3, y4, _⟩, yf⟩ := HX5.out
  obtain ⟨g0, g1, g2, g3, _⟩ := HF5.out
  go_wp2_with fail
  clear y0 y1 y2 y3 y4 yf g0 g1 g2 g3
  refine (HB.out _).mono ?_
  rintro e w6 ⟨rfl, hw⟩
  clear x0 x1 x2 x3 x4 xf f0 f1 f2 f3
  have HX6 := Lib.hid (HX5.out.below hw)
  have HR6 := Lib.hid (HR5.out.below hw)
  have HF6 := Lib.hid (HF5.out.below hw)
  have HB6 := Lib.hid (HB5.out.trans (hw.mono HB5.out.size))
  clear hw
  obtain ⟨⟨x0, x1, x2, x3, x4, _⟩, xf⟩ := HX6.out
  obtain ⟨f0, f1, f2, f3, _⟩ := HF6.out
  go_wp2_with fail
  refine (HI.out _).mono ?_
  rintro e w7 ⟨rfl, hw⟩
  clear x0 x1 x2 x3 x4 xf f0 f1 f2 f3
  have HX7 := Lib.hid (HX6.out.below hw)
  have HR7 := Lib.hid (HR6.out.below hw)
  have HF7 := Lib.hid (HF6.out.below hw)
  have HB7 := Lib.hid (HB6.out.trans (hw.mono HB6.out.size))
  clear hw
  obtain ⟨⟨x0, x1, x2, x3, x4, _⟩, xf⟩ := HX7.out
  obtain ⟨f0, f1, f2, f3, _⟩ := HF7.out
  have HX8 := Lib.hid (HX7.out.set4 m)
  have HR8 := Lib.hid (HR7.out.off (q := w.heap.size + 1) (j := 4) (by omega) (.int .i64 m))
  have HF8 := Lib.hid (HF7.out.off (p := w.heap.size + 1) (j := 4) HQ.out (.int .i64 m))
  have HB8 := Lib.hid (HB7.out.setCell (p := ⟨w.heap.size + 1, 4, none⟩) (Nat.le_succ _) (.int .i64 m))
  obtain ⟨⟨y0, y1, y2, y3, y4, _⟩, yf⟩ := HX8.out
  obtain ⟨g0, g1, g2, g3, _⟩ := HF8.out
  go_wp2_with fail
  refine (HX9.out _).mono ?_
  rintro e wz ⟨rfl, rfl⟩
  go_wp2_with fail
  refine (HS9.out _).mono ?_
  rintro e wz ⟨rfl, rfl⟩
  have HX9 := Lib.hid (HX8.out.set4 z)
  have HR9 := Lib.hid (HR8.out.off (q := w.heap.size + 1) (j := 4) (by omega) (.int .i64 z))
  have HF9 := Lib.hid (HF8.out.off (p := w.heap.size + 1) (j := 4) HQ.out (.int .i64 z))
  have HB9 := Lib.hid (HB8.out.setCell (p := ⟨w.heap.size + 1, 4, none⟩) (Nat.le_succ _) (.int .i64 z))
  obtain ⟨⟨z0, z1, z2, z3, z4, _⟩, zf⟩ := HX9.out
  go_wp2_with fail
  clear z0 z1 z2 z3 z4 zf
  clear y0 y1 y2 y3 y4 yf g0 g1 g2 g3
  refine (HE.out _).mono ?_
  rintro e w10 ⟨rfl, hw⟩
  clear x0 x1 x2 x3 x4 xf f0 f1 f2 f3
  have HX10 := Lib.hid (HX9.out.below hw)
  have HR10 := Lib.hid (HR9.out.below hw)
  have HB10 := Lib.hid (HB9.out.trans (hw.mono HB9.out.size))
  clear hw
  obtain ⟨⟨x0, x1, x2, x3, x4, _⟩, xf⟩ := HX10.out
  obtain ⟨⟨r0, r1, r2, r3, r4, _⟩, rf⟩ := HR10.out
  go_wp2_with fail
  refine bodyPost_ret (v := .tuple #[.agg #[.int .i64 0, .int .i64 0, .int .i64 0, .int .i64 0, .int .i64 0], .int .i64 20]) (by simp [results, Tryz.results34, r0, r1, r2, r3, r4, go_sem]) rfl ?_
  exact ⟨rfl, ((((HB10.out.setCell (p := ⟨w.heap.size, 0, none⟩) (Nat.le_refl _) _).setCell (p := ⟨w.heap.size, 1, none⟩) (Nat.le_refl _) _).setCell (p := ⟨w.heap.size, 2, none⟩) (Nat.le_refl _) _).setCell (p := ⟨w.heap.size, 3, none⟩) (Nat.le_refl _) _).setCell (p := ⟨w.heap.size, 4, none⟩) (Nat.le_refl _) _⟩
set_option maxRecDepth 100000 in
set_option maxHeartbeats 4000000 in
theorem decDAIn_ne (v o d a : Nat) (m : Nat) (hi : Int) (z : Int) (u : Int) (w : World) (hv : v < 4294967296) (ho : (v : Int) / 16777216 = (o : Int)) (ho2 : o ≤ 255) (hd : bits .and .u32 ((v : Int) / 1048576) 15 = (d : Int)) (hd2 : d ≤ 15) (ha : bits .and .u32 ((v : Int) / 65536) 15 = (a : Int)) (ha2 : a ≤ 15) (hm : bits .and .u32 (v : Int) 65535 = (m : Int)) (hm2 : m ≤ 65535) (hz : sg16 v = z) (hz1 : -8388608 ≤ z) (hz2 : z ≤ 8388607) (hu : (u != (v : Int)) = true) (hfm : FM o = (⟨#[68, 65, 73]⟩, (-32768), hi, 16, true)) (hE : ∀ W, Calls Tryz.prog 35 #[.agg #[.int .i64 o, .int .i64 d, .int .i64 a, .int .i64 0, .int .i64 z]] W fun e w' => e = .returned (.tuple #[.int .u32 u, .int .i64 0]) ∧ Below W.heap.size W w') :
    Calls Tryz.prog 34 #[.int .u32 v] w fun e w' => e = .returned (.tuple #[.agg #[.int .i64 0, .int .i64 0, .int .i64 0, .int .i64 0, .int .i64 0], .int .i64 20]) ∧ Below w.heap.size w w' := by
  have hF := fun W => formOf_any o W
  rw [show FMv o = .tuple #[.agg #[.string ⟨#[68, 65, 73]⟩, .int .i64 (-32768), .int .i64 hi, .int .i64 16], .bool true] by unfold FMv formV; rw [hfm]] at hF
  have HF := Lib.hid hF
  have HE := Lib.hid hE
  have HD := Lib.hid (fun W => has_any ⟨#[68, 65, 73]⟩ (-32768) hi 16 68 W)
  rw [show hasB ⟨#[68, 65, 73]⟩ 68 = true by decide] at HD
  have HA := Lib.hid (fun W => has_any ⟨#[68, 65, 73]⟩ (-32768) hi 16 65 W)
  rw [show hasB ⟨#[68, 65, 73]⟩ 65 = true by decide] at HA
  have HB := Lib.hid (fun W => has_any ⟨#[68, 65, 73]⟩ (-32768) hi 16 66 W)
  rw [show hasB ⟨#[68, 65, 73]⟩ 66 = false by decide] at HB
  have HI := Lib.hid (fun W => has_any ⟨#[68, 65, 73]⟩ (-32768) hi 16 73 W)
  rw [show hasB ⟨#[68, 65, 73]⟩ 73 = true by decide] at HI
  have hext := fun W => ext16_any v W hv
  rw [hz] at hext
  have HX9 := Lib.hid hext
  have HS9 := Lib.hid (fun W => signed_word z W (by omega) (by omega))
  clear hext hz
  clear hF hfm hE
  have hp : (w.alloc (.cells #[.int .i64 0, .int .i64 0, .int .i64 0, .int .i64 0, .int .i64 0] 94)).heap.size = w.heap.size + 1 := by simp
  have hx0 := IAt.fresh (w.alloc (.cells #[.int .i64 0, .int .i64 0, .int .i64 0, .int .i64 0, .int .i64 0] 94)) o 0 0 0 0 94
  rw [hp] at hx0
  have HX0 := Lib.hid hx0
  have HR0 := Lib.hid ((IAt.fresh w 0 0 0 0 0 94).past (.cells #[.int .i64 o, .int .i64 0, .int .i64 0, .int .i64 0, .int .i64 0] 94))
  have HB0 := Lib.hid ((((Below.refl _ _).alloc (Nat.le_refl _) (.cells #[.int .i64 0, .int .i64 0, .int .i64 0, .int .i64 0, .int .i64 0] 94) : Below w.heap.size w _).alloc (by simp) (.cells #[.int .i64 o, .int .i64 0, .int .i64 0, .int .i64 0, .int .i64 0] 94)))
  clear hx0 hp
  go_enter Tryz.func34, Tryz.ntmps34
  go_wp2_with fail
  refine (HF.out _).mono ?_
  rintro e w1 ⟨rfl, hw⟩
  have HX1 := Lib.hid ((HX0.out.below hw).past (.cells #[.string ⟨#[68, 65, 73]⟩, .int .i64 (-32768), .int .i64 hi, .int .i64 16] 115))
  have HR1 := Lib.hid ((HR0.out.below hw).past (.cells #[.string ⟨#[68, 65, 73]⟩, .int .i64 (-32768), .int .i64 hi, .int .i64 16] 115))
  have HF1 := Lib.hid (FAt.fresh w1 ⟨#[68, 65, 73]⟩ (-32768) hi 16 115)
  have HB1 := Lib.hid ((HB0.out.trans (hw.mono HB0.out.size)).alloc (HB0.out.trans (hw.mono HB0.out.size)).size (.cells #[.string ⟨#[68, 65, 73]⟩, .int .i64 (-32768), .int .i64 hi, .int .i64 16] 115))
  have HQ : Hid (w.heap.size + 1 ≠ w1.heap.size) := by have := hw.size; simp at this; show _ ≠ _; omega
  clear hw
  obtain ⟨⟨x0, x1, x2, x3, x4, _⟩, xf⟩ := HX1.out
  obtain ⟨f0, f1, f2, f3, _⟩ := HF1.out
  go_wp2_with fail
  refine (HD.out _).mono ?_
  rintro e w2 ⟨rfl, hw⟩
  clear x0 x1 x2 x3 x4 xf f0 f1 f2 f3
  have HX2 := Lib.hid (HX1.out.below hw)
  have HR2 := Lib.hid (HR1.out.below hw)
  have HF2 := Lib.hid (HF1.out.below hw)
  have HB2 := Lib.hid (HB1.out.trans (hw.mono HB1.out.size))
  clear hw
  obtain ⟨⟨x0, x1, x2, x3, x4, _⟩, xf⟩ := HX2.out
  obtain ⟨f0, f1, f2, f3, _⟩ := HF2.out
  have HX3 := Lib.hid (HX2.out.set1 d)
  have HR3 := Lib.hid (HR2.out.off (q := w.heap.size + 1) (j := 1) (by omega) (.int .i64 d))
  have HF3 := Lib.hid (HF2.out.off (p := w.heap.size + 1) (j := 1) HQ.out (.int .i64 d))
  have HB3 := Lib.hid (HB2.out.setCell (p := ⟨w.heap.size + 1, 1, none⟩) (Nat.le_succ _) (.int .i64 d))
  obtain ⟨⟨y0, y1, y2, y3, y4, _⟩, yf⟩ := HX3.out
  obtain ⟨g0, g1, g2, g3, _⟩ := HF3.out
  go_wp2_with fail
  clear y0 y1 y2 y3 y4 yf g0 g1 g2 g3
  refine (HA.out _).mono ?_
  rintro e w4 ⟨rfl, hw⟩
  clear x0 x1 x2 x3 x4 xf f0 f1 f2 f3
  have HX4 := Lib.hid (HX3.out.below hw)
  have HR4 := Lib.hid (HR3.out.below hw)
  have HF4 := Lib.hid (HF3.out.below hw)
  have HB4 := Lib.hid (HB3.out.trans (hw.mono HB3.out.size))
  clear hw
  obtain ⟨⟨x0, x1, x2, x3, x4, _⟩, xf⟩ := HX4.out
  obtain ⟨f0, f1, f2, f3, _⟩ := HF4.out
  have HX5 := Lib.hid (HX4.out.set2 a)
  have HR5 := Lib.hid (HR4.out.off (q := w.heap.size + 1) (j := 2) (by omega) (.int .i64 a))
  have HF5 := Lib.hid (HF4.out.off (p := w.heap.size + 1) (j := 2) HQ.out (.int .i64 a))
  have HB5 := Lib.hid (HB4.out.setCell (p := ⟨w.heap.size + 1, 2, none⟩) (Nat.le_succ _) (.int .i64 a))
  obtain ⟨⟨y0, y1, y2, y3, y4, _⟩, yf⟩ := HX5.out
  obtain ⟨g0, g1, g2, g3, _⟩ := HF5.out
  go_wp2_with fail
  clear y0 y1 y2 y3 y4 yf g0 g1 g2 g3
  refine (HB.out _).mono ?_
  rintro e w6 ⟨rfl, hw⟩
  clear x0 x1 x2 x3 x4 xf f0 f1 f2 f3
  have HX6 := Lib.hid (HX5.out.below hw)
  have HR6 := Lib.hid (HR5.out.below hw)
  have HF6 := Lib.hid (HF5.out.below hw)
  have HB6 := Lib.hid (HB5.out.trans (hw.mono HB5.out.size))
  clear hw
  obtain ⟨⟨x0, x1, x2, x3, x4, _⟩, xf⟩ := HX6.out
  obtain ⟨f0, f1, f2, f3, _⟩ := HF6.out
  go_wp2_with fail
  refine (HI.out _).mono ?_
  rintro e w7 ⟨rfl, hw⟩
  clear x0 x1 x2 x3 x4 xf f0 f1 f2 f3
  have HX7 := Lib.hid (HX6.out.below hw)
  have HR7 := Lib.hid (HR6.out.below hw)
  have HF7 := Lib.hid (HF6.out.below hw)
  have HB7 := Lib.hid (HB6.out.trans (hw.mono HB6.out.size))
  clear hw
  obtain ⟨⟨x0, x1, x2, x3, x4, _⟩, xf⟩ := HX7.out
  obtain ⟨f0, f1, f2, f3, _⟩ := HF7.out
  have HX8 := Lib.hid (HX7.out.set4 m)
  have HR8 := Lib.hid (HR7.out.off (q := w.heap.size + 1) (j := 4) (by omega) (.int .i64 m))
  have HF8 := Lib.hid (HF7.out.off (p := w.heap.size + 1) (j := 4) HQ.out (.int .i64 m))
  have HB8 := Lib.hid (HB7.out.setCell (p := ⟨w.heap.size + 1, 4, none⟩) (Nat.le_succ _) (.int .i64 m))
  obtain ⟨⟨y0, y1, y2, y3, y4, _⟩, yf⟩ := HX8.out
  obtain ⟨g0, g1, g2, g3, _⟩ := HF8.out
  go_wp2_with fail
  refine (HX9.out _).mono ?_
  rintro e wz ⟨rfl, rfl⟩
  go_wp2_with fail
  refine (HS9.out _).mono ?_
  rintro e wz ⟨rfl, rfl⟩
  have HX9 := Lib.hid (HX8.out.set4 z)
  have HR9 := Lib.hid (HR8.out.off (q := w.heap.size + 1) (j := 4) (by omega) (.int .i64 z))
  have HF9 := Lib.hid (HF8.out.off (p := w.heap.size + 1) (j := 4) HQ.out (.int .i64 z))
  have HB9 := Lib.hid (HB8.out.setCell (p := ⟨w.heap.size + 1, 4, none⟩) (Nat.le_succ _) (.int .i64 z))
  obtain ⟨⟨z0, z1, z2, z3, z4, _⟩, zf⟩ := HX9.out
  go_wp2_with fail
  clear z0 z1 z2 z3 z4 zf
  clear y0 y1 y2 y3 y4 yf g0 g1 g2 g3
  refine (HE.out _).mono ?_
  rintro e w10 ⟨rfl, hw⟩
  clear x0 x1 x2 x3 x4 xf f0 f1 f2 f3
  have HX10 := Lib.hid (HX9.out.below hw)
  have HR10 := Lib.hid (HR9.out.below hw)
  have HB10 := Lib.hid (HB9.out.trans (hw.mono HB9.out.size))
  clear hw
  obtain ⟨⟨x0, x1, x2, x3, x4, _⟩, xf⟩ := HX10.out
  obtain ⟨⟨r0, r1, r2, r3, r4, _⟩, rf⟩ := HR10.out
  go_wp2_with fail
  refine bodyPost_ret (v := .tuple #[.agg #[.int .i64 0, .int .i64 0, .int .i64 0, .int .i64 0, .int .i64 0], .int .i64 20]) (by simp [results, Tryz.results34, r0, r1, r2, r3, r4, go_sem]) rfl ?_
  exact ⟨rfl, ((((HB10.out.setCell (p := ⟨w.heap.size, 0, none⟩) (Nat.le_refl _) _).setCell (p := ⟨w.heap.size, 1, none⟩) (Nat.le_refl _) _).setCell (p := ⟨w.heap.size, 2, none⟩) (Nat.le_refl _) _).setCell (p := ⟨w.heap.size, 3, none⟩) (Nat.le_refl _) _).setCell (p := ⟨w.heap.size, 4, none⟩) (Nat.le_refl _) _⟩
set_option maxRecDepth 100000 in
set_option maxHeartbeats 4000000 in
theorem decDAIn_eq (v o d a : Nat) (m : Nat) (hi : Int) (z : Int) (w : World) (hv : v < 4294967296) (ho : (v : Int) / 16777216 = (o : Int)) (ho2 : o ≤ 255) (hd : bits .and .u32 ((v : Int) / 1048576) 15 = (d : Int)) (hd2 : d ≤ 15) (ha : bits .and .u32 ((v : Int) / 65536) 15 = (a : Int)) (ha2 : a ≤ 15) (hm : bits .and .u32 (v : Int) 65535 = (m : Int)) (hm2 : m ≤ 65535) (hz : sg16 v = z) (hz1 : -8388608 ≤ z) (hz2 : z ≤ 8388607) (hfm : FM o = (⟨#[68, 65, 73]⟩, (-32768), hi, 16, true)) (hE : ∀ W, Calls Tryz.prog 35 #[.agg #[.int .i64 o, .int .i64 d, .int .i64 a, .int .i64 0, .int .i64 z]] W fun e w' => e = .returned (.tuple #[.int .u32 v, .int .i64 0]) ∧ Below W.heap.size W w') :
    Calls Tryz.prog 34 #[.int .u32 v] w fun e w' => e = .returned (.tuple #[.agg #[.int .i64 o, .int .i64 d, .int .i64 a, .int .i64 0, .int .i64 z], .int .i64 0]) ∧ Below w.heap.size w w' := by
  have hF := fun W => formOf_any o W
  rw [show FMv o = .tuple #[.agg #[.string ⟨#[68, 65, 73]⟩, .int .i64 (-32768), .int .i64 hi, .int .i64 16], .bool true] by unfold FMv formV; rw [hfm]] at hF
  have HF := Lib.hid hF
  have HE := Lib.hid hE
  have HD := Lib.hid (fun W => has_any ⟨#[68, 65, 73]⟩ (-32768) hi 16 68 W)
  rw [show hasB ⟨#[68, 65, 73]⟩ 68 = true by decide] at HD
  have HA := Lib.hid (fun W => has_any ⟨#[68, 65, 73]⟩ (-32768) hi 16 65 W)
  rw [show hasB ⟨#[68, 65, 73]⟩ 65 = true by decide] at HA
  have HB := Lib.hid (fun W => has_any ⟨#[68, 65, 73]⟩ (-32768) hi 16 66 W)
  rw [show hasB ⟨#[68, 65, 73]⟩ 66 = false by decide] at HB
  have HI := Lib.hid (fun W => has_any ⟨#[68, 65, 73]⟩ (-32768) hi 16 73 W)
  rw [show hasB ⟨#[68, 65, 73]⟩ 73 = true by decide] at HI
  have hext := fun W => ext16_any v W hv
  rw [hz] at hext
  have HX9 := Lib.hid hext
  have HS9 := Lib.hid (fun W => signed_word z W (by omega) (by omega))
  clear hext hz
  clear hF hfm hE
  have hp : (w.alloc (.cells #[.int .i64 0, .int .i64 0, .int .i64 0, .int .i64 0, .int .i64 0] 94)).heap.size = w.heap.size + 1 := by simp
  have hx0 := IAt.fresh (w.alloc (.cells #[.int .i64 0, .int .i64 0, .int .i64 0, .int .i64 0, .int .i64 0] 94)) o 0 0 0 0 94
  rw [hp] at hx0
  have HX0 := Lib.hid hx0
  have HR0 := Lib.hid ((IAt.fresh w 0 0 0 0 0 94).past (.cells #[.int .i64 o, .int .i64 0, .int .i64 0, .int .i64 0, .int .i64 0] 94))
  have HB0 := Lib.hid ((((Below.refl _ _).alloc (Nat.le_refl _) (.cells #[.int .i64 0, .int .i64 0, .int .i64 0, .int .i64 0, .int .i64 0] 94) : Below w.heap.size w _).alloc (by simp) (.cells #[.int .i64 o, .int .i64 0, .int .i64 0, .int .i64 0, .int .i64 0] 94)))
  clear hx0 hp
  go_enter Tryz.func34, Tryz.ntmps34
  go_wp2_with fail
  refine (HF.out _).mono ?_
  rintro e w1 ⟨rfl, hw⟩
  have HX1 := Lib.hid ((HX0.out.below hw).past (.cells #[.string ⟨#[68, 65, 73]⟩, .int .i64 (-32768), .int .i64 hi, .int .i64 16] 115))
  have HR1 := Lib.hid ((HR0.out.below hw).past (.cells #[.string ⟨#[68, 65, 73]⟩, .int .i64 (-32768), .int .i64 hi, .int .i64 16] 115))
  have HF1 := Lib.hid (FAt.fresh w1 ⟨#[68, 65, 73]⟩ (-32768) hi 16 115)
  have HB1 := Lib.hid ((HB0.out.trans (hw.mono HB0.out.size)).alloc (HB0.out.trans (hw.mono HB0.out.size)).size (.cells #[.string ⟨#[68, 65, 73]⟩, .int .i64 (-32768), .int .i64 hi, .int .i64 16] 115))
  have HQ : Hid (w.heap.size + 1 ≠ w1.heap.size) := by have := hw.size; simp at this; show _ ≠ _; omega
  clear hw
  obtain ⟨⟨x0, x1, x2, x3, x4, _⟩, xf⟩ := HX1.out
  obtain ⟨f0, f1, f2, f3, _⟩ := HF1.out
  go_wp2_with fail
  refine (HD.out _).mono ?_
  rintro e w2 ⟨rfl, hw⟩
  clear x0 x1 x2 x3 x4 xf f0 f1 f2 f3
  have HX2 := Lib.hid (HX1.out.below hw)
  have HR2 := Lib.hid (HR1.out.below hw)
  have HF2 := Lib.hid (HF1.out.below hw)
  have HB2 := Lib.hid (HB1.out.trans (hw.mono HB1.out.size))
  clear hw
  obtain ⟨⟨x0, x1, x2, x3, x4, _⟩, xf⟩ := HX2.out
  obtain ⟨f0, f1, f2, f3, _⟩ := HF2.out
  have HX3 := Lib.hid (HX2.out.set1 d)
  have HR3 := Lib.hid (HR2.out.off (q := w.heap.size + 1) (j := 1) (by omega) (.int .i64 d))
  have HF3 := Lib.hid (HF2.out.off (p := w.heap.size + 1) (j := 1) HQ.out (.int .i64 d))
  have HB3 := Lib.hid (HB2.out.setCell (p := ⟨w.heap.size + 1, 1, none⟩) (Nat.le_succ _) (.int .i64 d))
  obtain ⟨⟨y0, y1, y2, y3, y4, _⟩, yf⟩ := HX3.out
  obtain ⟨g0, g1, g2, g3, _⟩ := HF3.out
  go_wp2_with fail
  clear y0 y1 y2 y3 y4 yf g0 g1 g2 g3
  refine (HA.out _).mono ?_
  rintro e w4 ⟨rfl, hw⟩
  clear x0 x1 x2 x3 x4 xf f0 f1 f2 f3
  have HX4 := Lib.hid (HX3.out.below hw)
  have HR4 := Lib.hid (HR3.out.below hw)
  have HF4 := Lib.hid (HF3.out.below hw)
  have HB4 := Lib.hid (HB3.out.trans (hw.mono HB3.out.size))
  clear hw
  obtain ⟨⟨x0, x1, x2, x3, x4, _⟩, xf⟩ := HX4.out
  obtain ⟨f0, f1, f2, f3, _⟩ := HF4.out
  have HX5 := Lib.hid (HX4.out.set2 a)
  have HR5 := Lib.hid (HR4.out.off (q := w.heap.size + 1) (j := 2) (by omega) (.int .i64 a))
  have HF5 := Lib.hid (HF4.out.off (p := w.heap.size + 1) (j := 2) HQ.out (.int .i64 a))
  have HB5 := Lib.hid (HB4.out.setCell (p := ⟨w.heap.size + 1, 2, none⟩) (Nat.le_succ _) (.int .i64 a))
  obtain ⟨⟨y0, y1, y2, y3, y4, _⟩, yf⟩ := HX5.out
  obtain ⟨g0, g1, g2, g3, _⟩ := HF5.out
  go_wp2_with fail
  clear y0 y1 y2 y3 y4 yf g0 g1 g2 g3
  refine (HB.out _).mono ?_
  rintro e w6 ⟨rfl, hw⟩
  clear x0 x1 x2 x3 x4 xf f0 f1 f2 f3
  have HX6 := Lib.hid (HX5.out.below hw)
  have HR6 := Lib.hid (HR5.out.below hw)
  have HF6 := Lib.hid (HF5.out.below hw)
  have HB6 := Lib.hid (HB5.out.trans (hw.mono HB5.out.size))
  clear hw
  obtain ⟨⟨x0, x1, x2, x3, x4, _⟩, xf⟩ := HX6.out
  obtain ⟨f0, f1, f2, f3, _⟩ := HF6.out
  go_wp2_with fail
  refine (HI.out _).mono ?_
  rintro e w7 ⟨rfl, hw⟩
  clear x0 x1 x2 x3 x4 xf f0 f1 f2 f3
  have HX7 := Lib.hid (HX6.out.below hw)
  have HR7 := Lib.hid (HR6.out.below hw)
  have HF7 := Lib.hid (HF6.out.below hw)
  have HB7 := Lib.hid (HB6.out.trans (hw.mono HB6.out.size))
  clear hw
  obtain ⟨⟨x0, x1, x2, x3, x4, _⟩, xf⟩ := HX7.out
  obtain ⟨f0, f1, f2, f3, _⟩ := HF7.out
  have HX8 := Lib.hid (HX7.out.set4 m)
  have HR8 := Lib.hid (HR7.out.off (q := w.heap.size + 1) (j := 4) (by omega) (.int .i64 m))
  have HF8 := Lib.hid (HF7.out.off (p := w.heap.size + 1) (j := 4) HQ.out (.int .i64 m))
  have HB8 := Lib.hid (HB7.out.setCell (p := ⟨w.heap.size + 1, 4, none⟩) (Nat.le_succ _) (.int .i64 m))
  obtain ⟨⟨y0, y1, y2, y3, y4, _⟩, yf⟩ := HX8.out
  obtain ⟨g0, g1, g2, g3, _⟩ := HF8.out
  go_wp2_with fail
  refine (HX9.out _).mono ?_
  rintro e wz ⟨rfl, rfl⟩
  go_wp2_with fail
  refine (HS9.out _).mono ?_
  rintro e wz ⟨rfl, rfl⟩
  have HX9 := Lib.hid (HX8.out.set4 z)
  have HR9 := Lib.hid (HR8.out.off (q := w.heap.size + 1) (j := 4) (by omega) (.int .i64 z))
  have HF9 := Lib.hid (HF8.out.off (p := w.heap.size + 1) (j := 4) HQ.out (.int .i64 z))
  have HB9 := Lib.hid (HB8.out.setCell (p := ⟨w.heap.size + 1, 4, none⟩) (Nat.le_succ _) (.int .i64 z))
  obtain ⟨⟨z0, z1, z2, z3, z4, _⟩, zf⟩ := HX9.out
  go_wp2_with fail
  clear z0 z1 z2 z3 z4 zf
  clear y0 y1 y2 y3 y4 yf g0 g1 g2 g3
  refine (HE.out _).mono ?_
  rintro e w10 ⟨rfl, hw⟩
  clear x0 x1 x2 x3 x4 xf f0 f1 f2 f3
  have HX10 := Lib.hid (HX9.out.below hw)
  have HR10 := Lib.hid (HR9.out.below hw)
  have HB10 := Lib.hid (HB9.out.trans (hw.mono HB9.out.size))
  clear hw
  obtain ⟨⟨x0, x1, x2, x3, x4, _⟩, xf⟩ := HX10.out
  obtain ⟨⟨r0, r1, r2, r3, r4, _⟩, rf⟩ := HR10.out
  go_wp2_with fail
  refine bodyPost_ret (v := .tuple #[.agg #[.int .i64 o, .int .i64 d, .int .i64 a, .int .i64 0, .int .i64 z], .int .i64 0]) (by simp [results, Tryz.results34, r0, r1, r2, r3, r4, go_sem]) rfl ?_
  exact ⟨rfl, ((((HB10.out.setCell (p := ⟨w.heap.size, 0, none⟩) (Nat.le_refl _) _).setCell (p := ⟨w.heap.size, 1, none⟩) (Nat.le_refl _) _).setCell (p := ⟨w.heap.size, 2, none⟩) (Nat.le_refl _) _).setCell (p := ⟨w.heap.size, 3, none⟩) (Nat.le_refl _) _).setCell (p := ⟨w.heap.size, 4, none⟩) (Nat.le_refl _) _⟩
set_option maxRecDepth 100000 in
set_option maxHeartbeats 4000000 in
theorem decDAIp_bad (v o d a : Nat) (m : Nat) (lo hi : Int) (w : World) (hv : v < 4294967296) (ho : (v : Int) / 16777216 = (o : Int)) (ho2 : o ≤ 255) (hd : bits .and .u32 ((v : Int) / 1048576) 15 = (d : Int)) (hd2 : d ≤ 15) (ha : bits .and .u32 ((v : Int) / 65536) 15 = (a : Int)) (ha2 : a ≤ 15) (hm : bits .and .u32 (v : Int) 65535 = (m : Int)) (hm2 : m ≤ 65535) (hlo : 0 ≤ lo) (hfm : FM o = (⟨#[68, 65, 73]⟩, lo, hi, 16, true)) (hE : ∀ W, Calls Tryz.prog 35 #[.agg #[.int .i64 o, .int .i64 d, .int .i64 a, .int .i64 0, .int .i64 m]] W fun e w' => e = .returned (.tuple #[.int .u32 0, .int .i64 20]) ∧ Below W.heap.size W w') :
    Calls Tryz.prog 34 #[.int .u32 v] w fun e w' => e = .returned (.tuple #[.agg #[.int .i64 0, .int .i64 0, .int .i64 0, .int .i64 0, .int .i64 0], .int .i64 20]) ∧ Below w.heap.size w w' := by
  have hF := fun W => formOf_any o W
  rw [show FMv o = .tuple #[.agg #[.string ⟨#[68, 65, 73]⟩, .int .i64 lo, .int .i64 hi, .int .i64 16], .bool true] by unfold FMv formV; rw [hfm]] at hF
  have HF := Lib.hid hF
  have HE := Lib.hid hE
  have HD := Lib.hid (fun W => has_any ⟨#[68, 65, 73]⟩ lo hi 16 68 W)
  rw [show hasB ⟨#[68, 65, 73]⟩ 68 = true by decide] at HD
  have HA := Lib.hid (fun W => has_any ⟨#[68, 65, 73]⟩ lo hi 16 65 W)
  rw [show hasB ⟨#[68, 65, 73]⟩ 65 = true by decide] at HA
  have HB := Lib.hid (fun W => has_any ⟨#[68, 65, 73]⟩ lo hi 16 66 W)
  rw [show hasB ⟨#[68, 65, 73]⟩ 66 = false by decide] at HB
  have HI := Lib.hid (fun W => has_any ⟨#[68, 65, 73]⟩ lo hi 16 73 W)
  rw [show hasB ⟨#[68, 65, 73]⟩ 73 = true by decide] at HI
  clear hF hfm hE
  have hp : (w.alloc (.cells #[.int .i64 0, .int .i64 0, .int .i64 0, .int .i64 0, .int .i64 0] 94)).heap.size = w.heap.size + 1 := by simp
  have hx0 := IAt.fresh (w.alloc (.cells #[.int .i64 0, .int .i64 0, .int .i64 0, .int .i64 0, .int .i64 0] 94)) o 0 0 0 0 94
  rw [hp] at hx0
  have HX0 := Lib.hid hx0
  have HR0 := Lib.hid ((IAt.fresh w 0 0 0 0 0 94).past (.cells #[.int .i64 o, .int .i64 0, .int .i64 0, .int .i64 0, .int .i64 0] 94))
  have HB0 := Lib.hid ((((Below.refl _ _).alloc (Nat.le_refl _) (.cells #[.int .i64 0, .int .i64 0, .int .i64 0, .int .i64 0, .int .i64 0] 94) : Below w.heap.size w _).alloc (by simp) (.cells #[.int .i64 o, .int .i64 0, .int .i64 0, .int .i64 0, .int .i64 0] 94)))
  clear hx0 hp
  go_enter Tryz.func34, Tryz.ntmps34
  go_wp2_with fail
  refine (HF.out _).mono ?_
  rintro e w1 ⟨rfl, hw⟩
  have HX1 := Lib.hid ((HX0.out.below hw).past (.cells #[.string ⟨#[68, 65, 73]⟩, .int .i64 lo, .int .i64 hi, .int .i64 16] 115))
  have HR1 := Lib.hid ((HR0.out.below hw).past (.cells #[.string ⟨#[68, 65, 73]⟩, .int .i64 lo, .int .i64 hi, .int .i64 16] 115))
  have HF1 := Lib.hid (FAt.fresh w1 ⟨#[68, 65, 73]⟩ lo hi 16 115)
  have HB1 := Lib.hid ((HB0.out.trans (hw.mono HB0.out.size)).alloc (HB0.out.trans (hw.mono HB0.out.size)).size (.cells #[.string ⟨#[68, 65, 73]⟩, .int .i64 lo, .int .i64 hi, .int .i64 16] 115))
  have HQ : Hid (w.heap.size + 1 ≠ w1.heap.size) := by have := hw.size; simp at this; show _ ≠ _; omega
  clear hw
  obtain ⟨⟨x0, x1, x2, x3, x4, _⟩, xf⟩ := HX1.out
  obtain ⟨f0, f1, f2, f3, _⟩ := HF1.out
  go_wp2_with fail
  refine (HD.out _).mono ?_
  rintro e w2 ⟨rfl, hw⟩
  clear x0 x1 x2 x3 x4 xf f0 f1 f2 f3
  have HX2 := Lib.hid (HX1.out.below hw)
  have HR2 := Lib.hid (HR1.out.below hw)
  have HF2 := Lib.hid (HF1.out.below hw)
  have HB2 := Lib.hid (HB1.out.trans (hw.mono HB1.out.size))
  clear hw
  obtain ⟨⟨x0, x1, x2, x3, x4, _⟩, xf⟩ := HX2.out
  obtain ⟨f0, f1, f2, f3, _⟩ := HF2.out
  have HX3 := Lib.hid (HX2.out.set1 d)
  have HR3 := Lib.hid (HR2.out.off (q := w.heap.size + 1) (j := 1) (by omega) (.int .i64 d))
  have HF3 := Lib.hid (HF2.out.off (p := w.heap.size + 1) (j := 1) HQ.out (.int .i64 d))
  have HB3 := Lib.hid (HB2.out.setCell (p := ⟨w.heap.size + 1, 1, none⟩) (Nat.le_succ _) (.int .i64 d))
  obtain ⟨⟨y0, y1, y2, y3, y4, _⟩, yf⟩ := HX3.out
  obtain ⟨g0, g1, g2, g3, _⟩ := HF3.out
  go_wp2_with fail
  clear y0 y1 y2 y3 y4 yf g0 g1 g2 g3
  refine (HA.out _).mono ?_
  rintro e w4 ⟨rfl, hw⟩
  clear x0 x1 x2 x3 x4 xf f0 f1 f2 f3
  have HX4 := Lib.hid (HX3.out.below hw)
  have HR4 := Lib.hid (HR3.out.below hw)
  have HF4 := Lib.hid (HF3.out.below hw)
  have HB4 := Lib.hid (HB3.out.trans (hw.mono HB3.out.size))
  clear hw
  obtain ⟨⟨x0, x1, x2, x3, x4, _⟩, xf⟩ := HX4.out
  obtain ⟨f0, f1, f2, f3, _⟩ := HF4.out
  have HX5 := Lib.hid (HX4.out.set2 a)
  have HR5 := Lib.hid (HR4.out.off (q := w.heap.size + 1) (j := 2) (by omega) (.int .i64 a))
  have HF5 := Lib.hid (HF4.out.off (p := w.heap.size + 1) (j := 2) HQ.out (.int .i64 a))
  have HB5 := Lib.hid (HB4.out.setCell (p := ⟨w.heap.size + 1, 2, none⟩) (Nat.le_succ _) (.int .i64 a))
  obtain ⟨⟨y0, y1, y2, y3, y4, _⟩, yf⟩ := HX5.out
  obtain ⟨g0, g1, g2, g3, _⟩ := HF5.out
  go_wp2_with fail
  clear y0 y1 y2 y3 y4 yf g0 g1 g2 g3
  refine (HB.out _).mono ?_
  rintro e w6 ⟨rfl, hw⟩
  clear x0 x1 x2 x3 x4 xf f0 f1 f2 f3
  have HX6 := Lib.hid (HX5.out.below hw)
  have HR6 := Lib.hid (HR5.out.below hw)
  have HF6 := Lib.hid (HF5.out.below hw)
  have HB6 := Lib.hid (HB5.out.trans (hw.mono HB5.out.size))
  clear hw
  obtain ⟨⟨x0, x1, x2, x3, x4, _⟩, xf⟩ := HX6.out
  obtain ⟨f0, f1, f2, f3, _⟩ := HF6.out
  go_wp2_with fail
  refine (HI.out _).mono ?_
  rintro e w7 ⟨rfl, hw⟩
  clear x0 x1 x2 x3 x4 xf f0 f1 f2 f3
  have HX7 := Lib.hid (HX6.out.below hw)
  have HR7 := Lib.hid (HR6.out.below hw)
  have HF7 := Lib.hid (HF6.out.below hw)
  have HB7 := Lib.hid (HB6.out.trans (hw.mono HB6.out.size))
  clear hw
  obtain ⟨⟨x0, x1, x2, x3, x4, _⟩, xf⟩ := HX7.out
  obtain ⟨f0, f1, f2, f3, _⟩ := HF7.out
  have HX8 := Lib.hid (HX7.out.set4 m)
  have HR8 := Lib.hid (HR7.out.off (q := w.heap.size + 1) (j := 4) (by omega) (.int .i64 m))
  have HF8 := Lib.hid (HF7.out.off (p := w.heap.size + 1) (j := 4) HQ.out (.int .i64 m))
  have HB8 := Lib.hid (HB7.out.setCell (p := ⟨w.heap.size + 1, 4, none⟩) (Nat.le_succ _) (.int .i64 m))
  obtain ⟨⟨y0, y1, y2, y3, y4, _⟩, yf⟩ := HX8.out
  obtain ⟨g0, g1, g2, g3, _⟩ := HF8.out
  go_wp2_with fail
  clear y0 y1 y2 y3 y4 yf g0 g1 g2 g3
  refine (HE.out _).mono ?_
  rintro e w9 ⟨rfl, hw⟩
  clear x0 x1 x2 x3 x4 xf f0 f1 f2 f3
  have HX9 := Lib.hid (HX8.out.below hw)
  have HR9 := Lib.hid (HR8.out.below hw)
  have HB9 := Lib.hid (HB8.out.trans (hw.mono HB8.out.size))
  clear hw
  obtain ⟨⟨x0, x1, x2, x3, x4, _⟩, xf⟩ := HX9.out
  obtain ⟨⟨r0, r1, r2, r3, r4, _⟩, rf⟩ := HR9.out
  go_wp2_with fail
  refine bodyPost_ret (v := .tuple #[.agg #[.int .i64 0, .int .i64 0, .int .i64 0, .int .i64 0, .int .i64 0], .int .i64 20]) (by simp [results, Tryz.results34, r0, r1, r2, r3, r4, go_sem]) rfl ?_
  exact ⟨rfl, ((((HB9.out.setCell (p := ⟨w.heap.size, 0, none⟩) (Nat.le_refl _) _).setCell (p := ⟨w.heap.size, 1, none⟩) (Nat.le_refl _) _).setCell (p := ⟨w.heap.size, 2, none⟩) (Nat.le_refl _) _).setCell (p := ⟨w.heap.size, 3, none⟩) (Nat.le_refl _) _).setCell (p := ⟨w.heap.size, 4, none⟩) (Nat.le_refl _) _⟩
set_option maxRecDepth 100000 in
set_option maxHeartbeats 4000000 in
theorem decDAIp_ne (v o d a : Nat) (m : Nat) (lo hi : Int) (u : Int) (w : World) (hv : v < 4294967296) (ho : (v : Int) / 16777216 = (o : Int)) (ho2 : o ≤ 255) (hd : bits .and .u32 ((v : Int) / 1048576) 15 = (d : Int)) (hd2 : d ≤ 15) (ha : bits .and .u32 ((v : Int) / 65536) 15 = (a : Int)) (ha2 : a ≤ 15) (hm : bits .and .u32 (v : Int) 65535 = (m : Int)) (hm2 : m ≤ 65535) (hlo : 0 ≤ lo) (hu : (u != (v : Int)) = true) (hfm : FM o = (⟨#[68, 65, 73]⟩, lo, hi, 16, true)) (hE : ∀ W, Calls Tryz.prog 35 #[.agg #[.int .i64 o, .int .i64 d, .int .i64 a, .int .i64 0, .int .i64 m]] W fun e w' => e = .returned (.tuple #[.int .u32 u, .int .i64 0]) ∧ Below W.heap.size W w') :
    Calls Tryz.prog 34 #[.int .u32 v] w fun e w' => e = .returned (.tuple #[.agg #[.int .i64 0, .int .i64 0, .int .i64 0, .int .i64 0, .int .i64 0], .int .i64 20]) ∧ Below w.heap.size w w' := by
  have hF := fun W => formOf_any o W
  rw [show FMv o = .tuple #[.agg #[.string ⟨#[68, 65, 73]⟩, .int .i64 lo, .int .i64 hi, .int .i64 16], .bool true] by unfold FMv formV; rw [hfm]] at hF
  have HF := Lib.hid hF
  have HE := Lib.hid hE
  have HD := Lib.hid (fun W => has_any ⟨#[68, 65, 73]⟩ lo hi 16 68 W)
  rw [show hasB ⟨#[68, 65, 73]⟩ 68 = true by decide] at HD
  have HA := Lib.hid (fun W => has_any ⟨#[68, 65, 73]⟩ lo hi 16 65 W)
  rw [show hasB ⟨#[68, 65, 73]⟩ 65 = true by decide] at HA
  have HB := Lib.hid (fun W => has_any ⟨#[68, 65, 73]⟩ lo hi 16 66 W)
  rw [show hasB ⟨#[68, 65, 73]⟩ 66 = false by decide] at HB
  have HI := Lib.hid (fun W => has_any ⟨#[68, 65, 73]⟩ lo hi 16 73 W)
  rw [show hasB ⟨#[68, 65, 73]⟩ 73 = true by decide] at HI
  clear hF hfm hE
  have hp : (w.alloc (.cells #[.int .i64 0, .int .i64 0, .int .i64 0, .int .i64 0, .int .i64 0] 94)).heap.size = w.heap.size + 1 := by simp
  have hx0 := IAt.fresh (w.alloc (.cells #[.int .i64 0, .int .i64 0, .int .i64 0, .int .i64 0, .int .i64 0] 94)) o 0 0 0 0 94
  rw [hp] at hx0
  have HX0 := Lib.hid hx0
  have HR0 := Lib.hid ((IAt.fresh w 0 0 0 0 0 94).past (.cells #[.int .i64 o, .int .i64 0, .int .i64 0, .int .i64 0, .int .i64 0] 94))
  have HB0 := Lib.hid ((((Below.refl _ _).alloc (Nat.le_refl _) (.cells #[.int .i64 0, .int .i64 0, .int .i64 0, .int .i64 0, .int .i64 0] 94) : Below w.heap.size w _).alloc (by simp) (.cells #[.int .i64 o, .int .i64 0, .int .i64 0, .int .i64 0, .int .i64 0] 94)))
  clear hx0 hp
  go_enter Tryz.func34, Tryz.ntmps34
  go_wp2_with fail
  refine (HF.out _).mono ?_
  rintro e w1 ⟨rfl, hw⟩
  have HX1 := Lib.hid ((HX0.out.below hw).past (.cells #[.string ⟨#[68, 65, 73]⟩, .int .i64 lo, .int .i64 hi, .int .i64 16] 115))
  have HR1 := Lib.hid ((HR0.out.below hw).past (.cells #[.string ⟨#[68, 65, 73]⟩, .int .i64 lo, .int .i64 hi, .int .i64 16] 115))
  have HF1 := Lib.hid (FAt.fresh w1 ⟨#[68, 65, 73]⟩ lo hi 16 115)
  have HB1 := Lib.hid ((HB0.out.trans (hw.mono HB0.out.size)).alloc (HB0.out.trans (hw.mono HB0.out.size)).size (.cells #[.string ⟨#[68, 65, 73]⟩, .int .i64 lo, .int .i64 hi, .int .i64 16] 115))
  have HQ : Hid (w.heap.size + 1 ≠ w1.heap.size) := by have := hw.size; simp at this; show _ ≠ _; omega
  clear hw
  obtain ⟨⟨x0, x1, x2, x3, x4, _⟩, xf⟩ := HX1.out
  obtain ⟨f0, f1, f2, f3, _⟩ := HF1.out
  go_wp2_with fail
  refine (HD.out _).mono ?_
  rintro e w2 ⟨rfl, hw⟩
  clear x0 x1 x2 x3 x4 xf f0 f1 f2 f3
  have HX2 := Lib.hid (HX1.out.below hw)
  have HR2 := Lib.hid (HR1.out.below hw)
  have HF2 := Lib.hid (HF1.out.below hw)
  have HB2 := Lib.hid (HB1.out.trans (hw.mono HB1.out.size))
  clear hw
  obtain ⟨⟨x0, x1, x2, x3, x4, _⟩, xf⟩ := HX2.out
  obtain ⟨f0, f1, f2, f3, _⟩ := HF2.out
  have HX3 := Lib.hid (HX2.out.set1 d)
  have HR3 := Lib.hid (HR2.out.off (q := w.heap.size + 1) (j := 1) (by omega) (.int .i64 d))
  have HF3 := Lib.hid (HF2.out.off (p := w.heap.size + 1) (j := 1) HQ.out (.int .i64 d))
  have HB3 := Lib.hid (HB2.out.setCell (p := ⟨w.heap.size + 1, 1, none⟩) (Nat.le_succ _) (.int .i64 d))
  obtain ⟨⟨y0, y1, y2, y3, y4, _⟩, yf⟩ := HX3.out
  obtain ⟨g0, g1, g2, g3, _⟩ := HF3.out
  go_wp2_with fail
  clear y0 y1 y2 y3 y4 yf g0 g1 g2 g3
  refine (HA.out _).mono ?_
  rintro e w4 ⟨rfl, hw⟩
  clear x0 x1 x2 x3 x4 xf f0 f1 f2 f3
  have HX4 := Lib.hid (HX3.out.below hw)
  have HR4 := Lib.hid (HR3.out.below hw)
  have HF4 := Lib.hid (HF3.out.below hw)
  have HB4 := Lib.hid (HB3.out.trans (hw.mono HB3.out.size))
  clear hw
  obtain ⟨⟨x0, x1, x2, x3, x4, _⟩, xf⟩ := HX4.out
  obtain ⟨f0, f1, f2, f3, _⟩ := HF4.out
  have HX5 := Lib.hid (HX4.out.set2 a)
  have HR5 := Lib.hid (HR4.out.off (q := w.heap.size + 1) (j := 2) (by omega) (.int .i64 a))
  have HF5 := Lib.hid (HF4.out.off (p := w.heap.size + 1) (j := 2) HQ.out (.int .i64 a))
  have HB5 := Lib.hid (HB4.out.setCell (p := ⟨w.heap.size + 1, 2, none⟩) (Nat.le_succ _) (.int .i64 a))
  obtain ⟨⟨y0, y1, y2, y3, y4, _⟩, yf⟩ := HX5.out
  obtain ⟨g0, g1, g2, g3, _⟩ := HF5.out
  go_wp2_with fail
  clear y0 y1 y2 y3 y4 yf g0 g1 g2 g3
  refine (HB.out _).mono ?_
  rintro e w6 ⟨rfl, hw⟩
  clear x0 x1 x2 x3 x4 xf f0 f1 f2 f3
  have HX6 := Lib.hid (HX5.out.below hw)
  have HR6 := Lib.hid (HR5.out.below hw)
  have HF6 := Lib.hid (HF5.out.below hw)
  have HB6 := Lib.hid (HB5.out.trans (hw.mono HB5.out.size))
  clear hw
  obtain ⟨⟨x0, x1, x2, x3, x4, _⟩, xf⟩ := HX6.out
  obtain ⟨f0, f1, f2, f3, _⟩ := HF6.out
  go_wp2_with fail
  refine (HI.out _).mono ?_
  rintro e w7 ⟨rfl, hw⟩
  clear x0 x1 x2 x3 x4 xf f0 f1 f2 f3
  have HX7 := Lib.hid (HX6.out.below hw)
  have HR7 := Lib.hid (HR6.out.below hw)
  have HF7 := Lib.hid (HF6.out.below hw)
  have HB7 := Lib.hid (HB6.out.trans (hw.mono HB6.out.size))
  clear hw
  obtain ⟨⟨x0, x1, x2, x3, x4, _⟩, xf⟩ := HX7.out
  obtain ⟨f0, f1, f2, f3, _⟩ := HF7.out
  have HX8 := Lib.hid (HX7.out.set4 m)
  have HR8 := Lib.hid (HR7.out.off (q := w.heap.size + 1) (j := 4) (by omega) (.int .i64 m))
  have HF8 := Lib.hid (HF7.out.off (p := w.heap.size + 1) (j := 4) HQ.out (.int .i64 m))
  have HB8 := Lib.hid (HB7.out.setCell (p := ⟨w.heap.size + 1, 4, none⟩) (Nat.le_succ _) (.int .i64 m))
  obtain ⟨⟨y0, y1, y2, y3, y4, _⟩, yf⟩ := HX8.out
  obtain ⟨g0, g1, g2, g3, _⟩ := HF8.out
  go_wp2_with fail
  clear y0 y1 y2 y3 y4 yf g0 g1 g2 g3
  refine (HE.out _).mono ?_
  rintro e w9 ⟨rfl, hw⟩
  clear x0 x1 x2 x3 x4 xf f0 f1 f2 f3
  have HX9 := Lib.hid (HX8.out.below hw)
  have HR9 := Lib.hid (HR8.out.below hw)
  have HB9 := Lib.hid (HB8.out.trans (hw.mono HB8.out.size))
  clear hw
  obtain ⟨⟨x0, x1, x2, x3, x4, _⟩, xf⟩ := HX9.out
  obtain ⟨⟨r0, r1, r2, r3, r4, _⟩, rf⟩ := HR9.out
  go_wp2_with fail
  refine bodyPost_ret (v := .tuple #[.agg #[.int .i64 0, .int .i64 0, .int .i64 0, .int .i64 0, .int .i64 0], .int .i64 20]) (by simp [results, Tryz.results34, r0, r1, r2, r3, r4, go_sem]) rfl ?_
  exact ⟨rfl, ((((HB9.out.setCell (p := ⟨w.heap.size, 0, none⟩) (Nat.le_refl _) _).setCell (p := ⟨w.heap.size, 1, none⟩) (Nat.le_refl _) _).setCell (p := ⟨w.heap.size, 2, none⟩) (Nat.le_refl _) _).setCell (p := ⟨w.heap.size, 3, none⟩) (Nat.le_refl _) _).setCell (p := ⟨w.heap.size, 4, none⟩) (Nat.le_refl _) _⟩
set_option maxRecDepth 100000 in
set_option maxHeartbeats 4000000 in
theorem decDAIp_eq (v o d a : Nat) (m : Nat) (lo hi : Int) (w : World) (hv : v < 4294967296) (ho : (v : Int) / 16777216 = (o : Int)) (ho2 : o ≤ 255) (hd : bits .and .u32 ((v : Int) / 1048576) 15 = (d : Int)) (hd2 : d ≤ 15) (ha : bits .and .u32 ((v : Int) / 65536) 15 = (a : Int)) (ha2 : a ≤ 15) (hm : bits .and .u32 (v : Int) 65535 = (m : Int)) (hm2 : m ≤ 65535) (hlo : 0 ≤ lo) (hfm : FM o = (⟨#[68, 65, 73]⟩, lo, hi, 16, true)) (hE : ∀ W, Calls Tryz.prog 35 #[.agg #[.int .i64 o, .int .i64 d, .int .i64 a, .int .i64 0, .int .i64 m]] W fun e w' => e = .returned (.tuple #[.int .u32 v, .int .i64 0]) ∧ Below W.heap.size W w') :
    Calls Tryz.prog 34 #[.int .u32 v] w fun e w' => e = .returned (.tuple #[.agg #[.int .i64 o, .int .i64 d, .int .i64 a, .int .i64 0, .int .i64 m], .int .i64 0]) ∧ Below w.heap.size w w' := by
  have hF := fun W => formOf_any o W
  rw [show FMv o = .tuple #[.agg #[.string ⟨#[68, 65, 73]⟩, .int .i64 lo, .int .i64 hi, .int .i64 16], .bool true] by unfold FMv formV; rw [hfm]] at hF
  have HF := Lib.hid hF
  have HE := Lib.hid hE
  have HD := Lib.hid (fun W => has_any ⟨#[68, 65, 73]⟩ lo hi 16 68 W)
  rw [show hasB ⟨#[68, 65, 73]⟩ 68 = true by decide] at HD
  have HA := Lib.hid (fun W => has_any ⟨#[68, 65, 73]⟩ lo hi 16 65 W)
  rw [show hasB ⟨#[68, 65, 73]⟩ 65 = true by decide] at HA
  have HB := Lib.hid (fun W => has_any ⟨#[68, 65, 73]⟩ lo hi 16 66 W)
  rw [show hasB ⟨#[68, 65, 73]⟩ 66 = false by decide] at HB
  have HI := Lib.hid (fun W => has_any ⟨#[68, 65, 73]⟩ lo hi 16 73 W)
  rw [show hasB ⟨#[68, 65, 73]⟩ 73 = true by decide] at HI
  clear hF hfm hE
  have hp : (w.alloc (.cells #[.int .i64 0, .int .i64 0, .int .i64 0, .int .i64 0, .int .i64 0] 94)).heap.size = w.heap.size + 1 := by simp
  have hx0 := IAt.fresh (w.alloc (.cells #[.int .i64 0, .int .i64 0, .int .i64 0, .int .i64 0, .int .i64 0] 94)) o 0 0 0 0 94
  rw [hp] at hx0
  have HX0 := Lib.hid hx0
  have HR0 := Lib.hid ((IAt.fresh w 0 0 0 0 0 94).past (.cells #[.int .i64 o, .int .i64 0, .int .i64 0, .int .i64 0, .int .i64 0] 94))
  have HB0 := Lib.hid ((((Below.refl _ _).alloc (Nat.le_refl _) (.cells #[.int .i64 0, .int .i64 0, .int .i64 0, .int .i64 0, .int .i64 0] 94) : Below w.heap.size w _).alloc (by simp) (.cells #[.int .i64 o, .int .i64 0, .int .i64 0, .int .i64 0, .int .i64 0] 94)))
  clear hx0 hp
  go_enter Tryz.func34, Tryz.ntmps34
  go_wp2_with fail
  refine (HF.out _).mono ?_
  rintro e w1 ⟨rfl, hw⟩
  have HX1 := Lib.hid ((HX0.out.below hw).past (.cells #[.string ⟨#[68, 65, 73]⟩, .int .i64 lo, .int .i64 hi, .int .i64 16] 115))
  have HR1 := Lib.hid ((HR0.out.below hw).past (.cells #[.string ⟨#[68, 65, 73]⟩, .int .i64 lo, .int .i64 hi, .int .i64 16] 115))
  have HF1 := Lib.hid (FAt.fresh w1 ⟨#[68, 65, 73]⟩ lo hi 16 115)
  have HB1 := Lib.hid ((HB0.out.trans (hw.mono HB0.out.size)).alloc (HB0.out.trans (hw.mono HB0.out.size)).size (.cells #[.string ⟨#[68, 65, 73]⟩, .int .i64 lo, .int .i64 hi, .int .i64 16] 115))
  have HQ : Hid (w.heap.size + 1 ≠ w1.heap.size) := by have := hw.size; simp at this; show _ ≠ _; omega
  clear hw
  obtain ⟨⟨x0, x1, x2, x3, x4, _⟩, xf⟩ := HX1.out
  obtain ⟨f0, f1, f2, f3, _⟩ := HF1.out
  go_wp2_with fail
  refine (HD.out _).mono ?_
  rintro e w2 ⟨rfl, hw⟩
  clear x0 x1 x2 x3 x4 xf f0 f1 f2 f3
  have HX2 := Lib.hid (HX1.out.below hw)
  have HR2 := Lib.hid (HR1.out.below hw)
  have HF2 := Lib.hid (HF1.out.below hw)
  have HB2 := Lib.hid (HB1.out.trans (hw.mono HB1.out.size))
  clear hw
  obtain ⟨⟨x0, x1, x2, x3, x4, _⟩, xf⟩ := HX2.out
  obtain ⟨f0, f1, f2, f3, _⟩ := HF2.out
  have HX3 := Lib.hid (HX2.out.set1 d)
  have HR3 := Lib.hid (HR2.out.off (q := w.heap.size + 1) (j := 1) (by omega) (.int .i64 d))
  have HF3 := Lib.hid (HF2.out.off (p := w.heap.size + 1) (j := 1) HQ.out (.int .i64 d))
  have HB3 := Lib.hid (HB2.out.setCell (p := ⟨w.heap.size + 1, 1, none⟩) (Nat.le_succ _) (.int .i64 d))
  obtain ⟨⟨y0, y1, y2, y3, y4, _⟩, yf⟩ := HX3.out
  obtain ⟨g0, g1, g2, g3, _⟩ := HF3.out
  go_wp2_with fail
  clear y0 y1 y2 y3 y4 yf g0 g1 g2 g3
  refine (HA.out _).mono ?_
  rintro e w4 ⟨rfl, hw⟩
  clear x0 x1 x2 x3 x4 xf f0 f1 f2 f3
  have HX4 := Lib.hid (HX3.out.below hw)
  have HR4 := Lib.hid (HR3.out.below hw)
  have HF4 := Lib.hid (HF3.out.below hw)
  have HB4 := Lib.hid (HB3.out.trans (hw.mono HB3.out.size))
  clear hw
  obtain ⟨⟨x0, x1, x2, x3, x4, _⟩, xf⟩ := HX4.out
  obtain ⟨f0, f1, f2, f3, _⟩ := HF4.out
  have HX5 := Lib.hid (HX4.out.set2 a)
  have HR5 := Lib.hid (HR4.out.off (q := w.heap.size + 1) (j := 2) (by omega) (.int .i64 a))
  have HF5 := Lib.hid (HF4.out.off (p := w.heap.size + 1) (j := 2) HQ.out (.int .i64 a))
  have HB5 := Lib.hid (HB4.out.setCell (p := ⟨w.heap.size + 1, 2, none⟩) (Nat.le_succ _) (.int .i64 a))
  obtain ⟨⟨y0, y1, y2, y3, y4, _⟩, yf⟩ := HX5.out
  obtain ⟨g0, g1, g2, g3, _⟩ := HF5.out
  go_wp2_with fail
  clear y0 y1 y2 y3 y4 yf g0 g1 g2 g3
  refine (HB.out _).mono ?_
  rintro e w6 ⟨rfl, hw⟩
  clear x0 x1 x2 x3 x4 xf f0 f1 f2 f3
  have HX6 := Lib.hid (HX5.out.below hw)
  have HR6 := Lib.hid (HR5.out.below hw)
  have HF6 := Lib.hid (HF5.out.below hw)
  have HB6 := Lib.hid (HB5.out.trans (hw.mono HB5.out.size))
  clear hw
  obtain ⟨⟨x0, x1, x2, x3, x4, _⟩, xf⟩ := HX6.out
  obtain ⟨f0, f1, f2, f3, _⟩ := HF6.out
  go_wp2_with fail
  refine (HI.out _).mono ?_
  rintro e w7 ⟨rfl, hw⟩
  clear x0 x1 x2 x3 x4 xf f0 f1 f2 f3
  have HX7 := Lib.hid (HX6.out.below hw)
  have HR7 := Lib.hid (HR6.out.below hw)
  have HF7 := Lib.hid (HF6.out.below hw)
  have HB7 := Lib.hid (HB6.out.trans (hw.mono HB6.out.size))
  clear hw
  obtain ⟨⟨x0, x1, x2, x3, x4, _⟩, xf⟩ := HX7.out
  obtain ⟨f0, f1, f2, f3, _⟩ := HF7.out
  have HX8 := Lib.hid (HX7.out.set4 m)
  have HR8 := Lib.hid (HR7.out.off (q := w.heap.size + 1) (j := 4) (by omega) (.int .i64 m))
  have HF8 := Lib.hid (HF7.out.off (p := w.heap.size + 1) (j := 4) HQ.out (.int .i64 m))
  have HB8 := Lib.hid (HB7.out.setCell (p := ⟨w.heap.size + 1, 4, none⟩) (Nat.le_succ _) (.int .i64 m))
  obtain ⟨⟨y0, y1, y2, y3, y4, _⟩, yf⟩ := HX8.out
  obtain ⟨g0, g1, g2, g3, _⟩ := HF8.out
  go_wp2_with fail
  clear y0 y1 y2 y3 y4 yf g0 g1 g2 g3
  refine (HE.out _).mono ?_
  rintro e w9 ⟨rfl, hw⟩
  clear x0 x1 x2 x3 x4 xf f0 f1 f2 f3
  have HX9 := Lib.hid (HX8.out.below hw)
  have HR9 := Lib.hid (HR8.out.below hw)
  have HB9 := Lib.hid (HB8.out.trans (hw.mono HB8.out.size))
  clear hw
  obtain ⟨⟨x0, x1, x2, x3, x4, _⟩, xf⟩ := HX9.out
  obtain ⟨⟨r0, r1, r2, r3, r4, _⟩, rf⟩ := HR9.out
  go_wp2_with fail
  refine bodyPost_ret (v := .tuple #[.agg #[.int .i64 o, .int .i64 d, .int .i64 a, .int .i64 0, .int .i64 m], .int .i64 0]) (by simp [results, Tryz.results34, r0, r1, r2, r3, r4, go_sem]) rfl ?_
  exact ⟨rfl, ((((HB9.out.setCell (p := ⟨w.heap.size, 0, none⟩) (Nat.le_refl _) _).setCell (p := ⟨w.heap.size, 1, none⟩) (Nat.le_refl _) _).setCell (p := ⟨w.heap.size, 2, none⟩) (Nat.le_refl _) _).setCell (p := ⟨w.heap.size, 3, none⟩) (Nat.le_refl _) _).setCell (p := ⟨w.heap.size, 4, none⟩) (Nat.le_refl _) _⟩
end Go.Proofs.YteoglkofeogknaaGreatDoor
