/- Walks: the reference's Decode, by the form's letter. Conditions: what each states. -/
import Derived.Test.YtlgdfacaeahcaaaDoorEB
import Derived.Test.YtlgdfacaeahcaaaDoorDC
set_option linter.unusedVariables false
set_option linter.unusedSimpArgs false
namespace Go.Proofs.YtlgdfacaeahcaaaDoor
open Go.RowKit
set_option maxRecDepth 100000 in
set_option maxHeartbeats 4000000 in
theorem rdecT_bad (v o d a m : Nat) (z : Int) (w : World) (hv : v < 4294967296) (ho : (v : Int) / 16777216 = (o : Int)) (ho2 : o ≤ 255) (hd : bits .and .i64 ((v : Int) / 1048576) 15 = (d : Int)) (hd2 : d ≤ 15) (ha : bits .and .i64 ((v : Int) / 65536) 15 = (a : Int)) (ha2 : a ≤ 15) (hm : bits .and .i64 (v : Int) 65535 = (m : Int)) (hm2 : m ≤ 65535) (hz : (if (m : Int) < 32768 then (m : Int) else (m : Int) - 65536) = z) (hf : RF o = 84) (hE : ∀ W, Calls Tryd.prog 63 #[.agg #[.int .i64 o, .int .i64 d, .int .i64 a, .int .i64 0, .int .i64 z]] W fun e w' => e = .returned (.tuple #[.int .u32 0, .int .i64 20]) ∧ Below W.heap.size W w') :
    Calls Tryd.prog 41 #[.int .u32 v] w fun e w' => e = .returned (.tuple #[.agg #[.int .i64 0, .int .i64 0, .int .i64 0, .int .i64 0, .int .i64 0], .int .i64 20]) ∧ Below w.heap.size w w' := by
  have hF := fun W => rform_any o W
  rw [hf] at hF
  have HF : Hid (∀ W, Calls Tryd.prog 60 #[.int .i64 o] W fun e w' => e = .returned (.int .u8 84) ∧ Below W.heap.size W w') := fun W => (hF W).mono (by rintro e w' ⟨h, rfl⟩; exact ⟨h, Below.refl _ _⟩)
  clear hF
  have HE := Lib.hid hE
  have HD := Lib.hid (fun W => rin_any 84 100 W (by unfold IsF; decide))
  rw [show inB 84 100 = true by decide] at HD
  have HA := Lib.hid (fun W => rin_any 84 97 W (by unfold IsF; decide))
  rw [show inB 84 97 = true by decide] at HA
  have HB := Lib.hid (fun W => rin_any 84 98 W (by unfold IsF; decide))
  rw [show inB 84 98 = false by decide] at HB
  have HI := Lib.hid (fun W => rin_any 84 105 W (by unfold IsF; decide))
  rw [show inB 84 105 = true by decide] at HI
  have hsg := fun W => rsigned_16 m W (by omega) (by omega)
  rw [hz] at hsg
  have HS9 := Lib.hid hsg
  clear hsg hz
  clear hf hE
  have hp : (w.alloc (.cells #[.int .i64 0, .int .i64 0, .int .i64 0, .int .i64 0, .int .i64 0] 65)).heap.size = w.heap.size + 1 := by simp
  have hx0 := IAt.fresh (w.alloc (.cells #[.int .i64 0, .int .i64 0, .int .i64 0, .int .i64 0, .int .i64 0] 65)) o 0 0 0 0 65
  rw [hp] at hx0
  have HX0 := Lib.hid hx0
  have HR0 := Lib.hid ((IAt.fresh w 0 0 0 0 0 65).past (.cells #[.int .i64 o, .int .i64 0, .int .i64 0, .int .i64 0, .int .i64 0] 65))
  have HB0 := Lib.hid ((((Below.refl _ _).alloc (Nat.le_refl _) (.cells #[.int .i64 0, .int .i64 0, .int .i64 0, .int .i64 0, .int .i64 0] 65) : Below w.heap.size w _).alloc (by simp) (.cells #[.int .i64 o, .int .i64 0, .int .i64 0, .int .i64 0, .int .i64 0] 65)))
  clear hx0 hp
  go_enter Tryd.func41, Tryd.ntmps41
  go_wp2_with fail
  refine (HF.out _).mono ?_
  rintro e w1 ⟨rfl, hw⟩
  have HX1 := Lib.hid (HX0.out.below hw)
  have HR1 := Lib.hid (HR0.out.below hw)
  have HB1 := Lib.hid (HB0.out.trans (hw.mono HB0.out.size))
  clear hw
  obtain ⟨⟨x0, x1, x2, x3, x4, _⟩, xf⟩ := HX1.out
  go_wp2_with fail
  refine (HD.out _).mono ?_
  rintro e wq ⟨rfl, rfl⟩
  have HX2 := Lib.hid (HX1.out.set1 d)
  have HR2 := Lib.hid (HR1.out.off (q := w.heap.size + 1) (j := 1) (by omega) (.int .i64 d))
  have HB2 := Lib.hid (HB1.out.setCell (p := ⟨w.heap.size + 1, 1, none⟩) (Nat.le_succ _) (.int .i64 d))
  obtain ⟨⟨y0, y1, y2, y3, y4, _⟩, yf⟩ := HX2.out
  go_wp2_with fail
  clear x0 x1 x2 x3 x4 xf
  clear y0 y1 y2 y3 y4 yf
  obtain ⟨⟨x0, x1, x2, x3, x4, _⟩, xf⟩ := HX2.out
  refine (HA.out _).mono ?_
  rintro e wq ⟨rfl, rfl⟩
  have HX3 := Lib.hid (HX2.out.set2 a)
  have HR3 := Lib.hid (HR2.out.off (q := w.heap.size + 1) (j := 2) (by omega) (.int .i64 a))
  have HB3 := Lib.hid (HB2.out.setCell (p := ⟨w.heap.size + 1, 2, none⟩) (Nat.le_succ _) (.int .i64 a))
  obtain ⟨⟨y0, y1, y2, y3, y4, _⟩, yf⟩ := HX3.out
  go_wp2_with fail
  clear x0 x1 x2 x3 x4 xf
  clear y0 y1 y2 y3 y4 yf
  obtain ⟨⟨x0, x1, x2, x3, x4, _⟩, xf⟩ := HX3.out
  refine (HB.out _).mono ?_
  rintro e wq ⟨rfl, rfl⟩
  go_wp2_with fail
  refine (HI.out _).mono ?_
  rintro e wq ⟨rfl, rfl⟩
  go_wp2_with fail
  refine (HS9.out _).mono ?_
  rintro e wz ⟨rfl, rfl⟩
  have HX4 := Lib.hid (HX3.out.set4 z)
  have HR4 := Lib.hid (HR3.out.off (q := w.heap.size + 1) (j := 4) (by omega) (.int .i64 z))
  have HB4 := Lib.hid (HB3.out.setCell (p := ⟨w.heap.size + 1, 4, none⟩) (Nat.le_succ _) (.int .i64 z))
  obtain ⟨⟨y0, y1, y2, y3, y4, _⟩, yf⟩ := HX4.out
  go_wp2_with fail
  clear x0 x1 x2 x3 x4 xf
  clear y0 y1 y2 y3 y4 yf
  obtain ⟨⟨x0, x1, x2, x3, x4, _⟩, xf⟩ := HX4.out
  refine (HE.out _).mono ?_
  rintro e we ⟨rfl, hw⟩
  clear x0 x1 x2 x3 x4 xf
  have HX9 := Lib.hid (HX4.out.below hw)
  have HR9 := Lib.hid (HR4.out.below hw)
  have HB9 := Lib.hid (HB4.out.trans (hw.mono HB4.out.size))
  clear hw
  obtain ⟨⟨x0, x1, x2, x3, x4, _⟩, xf⟩ := HX9.out
  obtain ⟨⟨r0, r1, r2, r3, r4, _⟩, rf⟩ := HR9.out
  go_wp2_with fail
  refine bodyPost_ret (v := .tuple #[.agg #[.int .i64 0, .int .i64 0, .int .i64 0, .int .i64 0, .int .i64 0], .int .i64 20]) (by simp [results, Tryd.results41, r0, r1, r2, r3, r4, go_sem]) rfl ?_
  exact ⟨rfl, ((((HB9.out.setCell (p := ⟨w.heap.size, 0, none⟩) (Nat.le_refl _) _).setCell (p := ⟨w.heap.size, 1, none⟩) (Nat.le_refl _) _).setCell (p := ⟨w.heap.size, 2, none⟩) (Nat.le_refl _) _).setCell (p := ⟨w.heap.size, 3, none⟩) (Nat.le_refl _) _).setCell (p := ⟨w.heap.size, 4, none⟩) (Nat.le_refl _) _⟩
set_option maxRecDepth 100000 in
set_option maxHeartbeats 4000000 in
theorem rdecT_ne (v o d a m : Nat) (z : Int) (u : Int) (w : World) (hv : v < 4294967296) (ho : (v : Int) / 16777216 = (o : Int)) (ho2 : o ≤ 255) (hd : bits .and .i64 ((v : Int) / 1048576) 15 = (d : Int)) (hd2 : d ≤ 15) (ha : bits .and .i64 ((v : Int) / 65536) 15 = (a : Int)) (ha2 : a ≤ 15) (hm : bits .and .i64 (v : Int) 65535 = (m : Int)) (hm2 : m ≤ 65535) (hz : (if (m : Int) < 32768 then (m : Int) else (m : Int) - 65536) = z) (hu : (u != (v : Int)) = true) (hf : RF o = 84) (hE : ∀ W, Calls Tryd.prog 63 #[.agg #[.int .i64 o, .int .i64 d, .int .i64 a, .int .i64 0, .int .i64 z]] W fun e w' => e = .returned (.tuple #[.int .u32 u, .int .i64 0]) ∧ Below W.heap.size W w') :
    Calls Tryd.prog 41 #[.int .u32 v] w fun e w' => e = .returned (.tuple #[.agg #[.int .i64 0, .int .i64 0, .int .i64 0, .int .i64 0, .int .i64 0], .int .i64 20]) ∧ Below w.heap.size w w' := by
  have hF := fun W => rform_any o W
  rw [hf] at hF
  have HF : Hid (∀ W, Calls Tryd.prog 60 #[.int .i64 o] W fun e w' => e = .returned (.int .u8 84) ∧ Below W.heap.size W w') := fun W => (hF W).mono (by rintro e w' ⟨h, rfl⟩; exact ⟨h, Below.refl _ _⟩)
  clear hF
  have HE := Lib.hid hE
  have HD := Lib.hid (fun W => rin_any 84 100 W (by unfold IsF; decide))
  rw [show inB 84 100 = true by decide] at HD
  have HA := Lib.hid (fun W => rin_any 84 97 W (by unfold IsF; decide))
  rw [show inB 84 97 = true by decide] at HA
  have HB := Lib.hid (fun W => rin_any 84 98 W (by unfold IsF; decide))
  rw [show inB 84 98 = false by decide] at HB
  have HI := Lib.hid (fun W => rin_any 84 105 W (by unfold IsF; decide))
  rw [show inB 84 105 = true by decide] at HI
  have hsg := fun W => rsigned_16 m W (by omega) (by omega)
  rw [hz] at hsg
  have HS9 := Lib.hid hsg
  clear hsg hz
  clear hf hE
  have hp : (w.alloc (.cells #[.int .i64 0, .int .i64 0, .int .i64 0, .int .i64 0, .int .i64 0] 65)).heap.size = w.heap.size + 1 := by simp
  have hx0 := IAt.fresh (w.alloc (.cells #[.int .i64 0, .int .i64 0, .int .i64 0, .int .i64 0, .int .i64 0] 65)) o 0 0 0 0 65
  rw [hp] at hx0
  have HX0 := Lib.hid hx0
  have HR0 := Lib.hid ((IAt.fresh w 0 0 0 0 0 65).past (.cells #[.int .i64 o, .int .i64 0, .int .i64 0, .int .i64 0, .int .i64 0] 65))
  have HB0 := Lib.hid ((((Below.refl _ _).alloc (Nat.le_refl _) (.cells #[.int .i64 0, .int .i64 0, .int .i64 0, .int .i64 0, .int .i64 0] 65) : Below w.heap.size w _).alloc (by simp) (.cells #[.int .i64 o, .int .i64 0, .int .i64 0, .int .i64 0, .int .i64 0] 65)))
  clear hx0 hp
  go_enter Tryd.func41, Tryd.ntmps41
  go_wp2_with fail
  refine (HF.out _).mono ?_
  rintro e w1 ⟨rfl, hw⟩
  have HX1 := Lib.hid (HX0.out.below hw)
  have HR1 := Lib.hid (HR0.out.below hw)
  have HB1 := Lib.hid (HB0.out.trans (hw.mono HB0.out.size))
  clear hw
  obtain ⟨⟨x0, x1, x2, x3, x4, _⟩, xf⟩ := HX1.out
  go_wp2_with fail
  refine (HD.out _).mono ?_
  rintro e wq ⟨rfl, rfl⟩
  have HX2 := Lib.hid (HX1.out.set1 d)
  have HR2 := Lib.hid (HR1.out.off (q := w.heap.size + 1) (j := 1) (by omega) (.int .i64 d))
  have HB2 := Lib.hid (HB1.out.setCell (p := ⟨w.heap.size + 1, 1, none⟩) (Nat.le_succ _) (.int .i64 d))
  obtain ⟨⟨y0, y1, y2, y3, y4, _⟩, yf⟩ := HX2.out
  go_wp2_with fail
  clear x0 x1 x2 x3 x4 xf
  clear y0 y1 y2 y3 y4 yf
  obtain ⟨⟨x0, x1, x2, x3, x4, _⟩, xf⟩ := HX2.out
  refine (HA.out _).mono ?_
  rintro e wq ⟨rfl, rfl⟩
  have HX3 := Lib.hid (HX2.out.set2 a)
  have HR3 := Lib.hid (HR2.out.off (q := w.heap.size + 1) (j := 2) (by omega) (.int .i64 a))
  have HB3 := Lib.hid (HB2.out.setCell (p := ⟨w.heap.size + 1, 2, none⟩) (Nat.le_succ _) (.int .i64 a))
  obtain ⟨⟨y0, y1, y2, y3, y4, _⟩, yf⟩ := HX3.out
  go_wp2_with fail
  clear x0 x1 x2 x3 x4 xf
  clear y0 y1 y2 y3 y4 yf
  obtain ⟨⟨x0, x1, x2, x3, x4, _⟩, xf⟩ := HX3.out
  refine (HB.out _).mono ?_
  rintro e wq ⟨rfl, rfl⟩
  go_wp2_with fail
  refine (HI.out _).mono ?_
  rintro e wq ⟨rfl, rfl⟩
  go_wp2_with fail
  refine (HS9.out _).mono ?_
  rintro e wz ⟨rfl, rfl⟩
  have HX4 := Lib.hid (HX3.out.set4 z)
  have HR4 := Lib.hid (HR3.out.off (q := w.heap.size + 1) (j := 4) (by omega) (.int .i64 z))
  have HB4 := Lib.hid (HB3.out.setCell (p := ⟨w.heap.size + 1, 4, none⟩) (Nat.le_succ _) (.int .i64 z))
  obtain ⟨⟨y0, y1, y2, y3, y4, _⟩, yf⟩ := HX4.out
  go_wp2_with fail
  clear x0 x1 x2 x3 x4 xf
  clear y0 y1 y2 y3 y4 yf
  obtain ⟨⟨x0, x1, x2, x3, x4, _⟩, xf⟩ := HX4.out
  refine (HE.out _).mono ?_
  rintro e we ⟨rfl, hw⟩
  clear x0 x1 x2 x3 x4 xf
  have HX9 := Lib.hid (HX4.out.below hw)
  have HR9 := Lib.hid (HR4.out.below hw)
  have HB9 := Lib.hid (HB4.out.trans (hw.mono HB4.out.size))
  clear hw
  obtain ⟨⟨x0, x1, x2, x3, x4, _⟩, xf⟩ := HX9.out
  obtain ⟨⟨r0, r1, r2, r3, r4, _⟩, rf⟩ := HR9.out
  go_wp2_with fail
  refine bodyPost_ret (v := .tuple #[.agg #[.int .i64 0, .int .i64 0, .int .i64 0, .int .i64 0, .int .i64 0], .int .i64 20]) (by simp [results, Tryd.results41, r0, r1, r2, r3, r4, go_sem]) rfl ?_
  exact ⟨rfl, ((((HB9.out.setCell (p := ⟨w.heap.size, 0, none⟩) (Nat.le_refl _) _).setCell (p := ⟨w.heap.size, 1, none⟩) (Nat.le_refl _) _).setCell (p := ⟨w.heap.size, 2, none⟩) (Nat.le_refl _) _).setCell (p := ⟨w.heap.size, 3, none⟩) (Nat.le_refl _) _).setCell (p := ⟨w.heap.size, 4, none⟩) (Nat.le_refl _) _⟩
set_option maxRecDepth 100000 in
set_option maxHeartbeats 4000000 in
theorem rdecT_eq (v o d a m : Nat) (z : Int) (w : World) (hv : v < 4294967296) (ho : (v : Int) / 16777216 = (o : Int)) (ho2 : o ≤ 255) (hd : bits .and .i64 ((v : Int) / 1048576) 15 = (d : Int)) (hd2 : d ≤ 15) (ha : bits .and .i64 ((v : Int) / 65536) 15 = (a : Int)) (ha2 : a ≤ 15) (hm : bits .and .i64 (v : Int) 65535 = (m : Int)) (hm2 : m ≤ 65535) (hz : (if (m : Int) < 32768 then (m : Int) else (m : Int) - 65536) = z) (hf : RF o = 84) (hE : ∀ W, Calls Tryd.prog 63 #[.agg #[.int .i64 o, .int .i64 d, .int .i64 a, .int .i64 0, .int .i64 z]] W fun e w' => e = .returned (.tuple #[.int .u32 v, .int .i64 0]) ∧ Below W.heap.size W w') :
    Calls Tryd.prog 41 #[.int .u32 v] w fun e w' => e = .returned (.tuple #[.agg #[.int .i64 o, .int .i64 d, .int .i64 a, .int .i64 0, .int .i64 z], .int .i64 0]) ∧ Below w.heap.size w w' := by
  have hF := fun W => rform_any o W
  rw [hf] at hF
  have HF : Hid (∀ W, Calls Tryd.prog 60 #[.int .i64 o] W fun e w' => e = .returned (.int .u8 84) ∧ Below W.heap.size W w') := fun W => (hF W).mono (by rintro e w' ⟨h, rfl⟩; exact ⟨h, Below.refl _ _⟩)
  clear hF
  have HE := Lib.hid hE
  have HD := Lib.hid (fun W => rin_any 84 100 W (by unfold IsF; decide))
  rw [show inB 84 100 = true by decide] at HD
  have HA := Lib.hid (fun W => rin_any 84 97 W (by unfold IsF; decide))
  rw [show inB 84 97 = true by decide] at HA
  have HB := Lib.hid (fun W => rin_any 84 98 W (by unfold IsF; decide))
  rw [show inB 84 98 = false by decide] at HB
  have HI := Lib.hid (fun W => rin_any 84 105 W (by unfold IsF; decide))
  rw [show inB 84 105 = true by decide] at HI
  have hsg := fun W => rsigned_16 m W (by omega) (by omega)
  rw [hz] at hsg
  have HS9 := Lib.hid hsg
  clear hsg hz
  clear hf hE
  have hp : (w.alloc (.cells #[.int .i64 0, .int .i64 0, .int .i64 0, .int .i64 0, .int .i64 0] 65)).heap.size = w.heap.size + 1 := by simp
  have hx0 := IAt.fresh (w.alloc (.cells #[.int .i64 0, .int .i64 0, .int .i64 0, .int .i64 0, .int .i64 0] 65)) o 0 0 0 0 65
  rw [hp] at hx0
  have HX0 := Lib.hid hx0
  have HR0 := Lib.hid ((IAt.fresh w 0 0 0 0 0 65).past (.cells #[.int .i64 o, .int .i64 0, .int .i64 0, .int .i64 0, .int .i64 0] 65))
  have HB0 := Lib.hid ((((Below.refl _ _).alloc (Nat.le_refl _) (.cells #[.int .i64 0, .int .i64 0, .int .i64 0, .int .i64 0, .int .i64 0] 65) : Below w.heap.size w _).alloc (by simp) (.cells #[.int .i64 o, .int .i64 0, .int .i64 0, .int .i64 0, .int .i64 0] 65)))
  clear hx0 hp
  go_enter Tryd.func41, Tryd.ntmps41
  go_wp2_with fail
  refine (HF.out _).mono ?_
  rintro e w1 ⟨rfl, hw⟩
  have HX1 := Lib.hid (HX0.out.below hw)
  have HR1 := Lib.hid (HR0.out.below hw)
  have HB1 := Lib.hid (HB0.out.trans (hw.mono HB0.out.size))
  clear hw
  obtain ⟨⟨x0, x1, x2, x3, x4, _⟩, xf⟩ := HX1.out
  go_wp2_with fail
  refine (HD.out _).mono ?_
  rintro e wq ⟨rfl, rfl⟩
  have HX2 := Lib.hid (HX1.out.set1 d)
  have HR2 := Lib.hid (HR1.out.off (q := w.heap.size + 1) (j := 1) (by omega) (.int .i64 d))
  have HB2 := Lib.hid (HB1.out.setCell (p := ⟨w.heap.size + 1, 1, none⟩) (Nat.le_succ _) (.int .i64 d))
  obtain ⟨⟨y0, y1, y2, y3, y4, _⟩, yf⟩ := HX2.out
  go_wp2_with fail
  clear x0 x1 x2 x3 x4 xf
  clear y0 y1 y2 y3 y4 yf
  obtain ⟨⟨x0, x1, x2, x3, x4, _⟩, xf⟩ := HX2.out
  refine (HA.out _).mono ?_
  rintro e wq ⟨rfl, rfl⟩
  have HX3 := Lib.hid (HX2.out.set2 a)
  have HR3 := Lib.hid (HR2.out.off (q := w.heap.size + 1) (j := 2) (by omega) (.int .i64 a))
  have HB3 := Lib.hid (HB2.out.setCell (p := ⟨w.heap.size + 1, 2, none⟩) (Nat.le_succ _) (.int .i64 a))
  obtain ⟨⟨y0, y1, y2, y3, y4, _⟩, yf⟩ := HX3.out
  go_wp2_with fail
  clear x0 x1 x2 x3 x4 xf
  clear y0 y1 y2 y3 y4 yf
  obtain ⟨⟨x0, x1, x2, x3, x4, _⟩, xf⟩ := HX3.out
  refine (HB.out _).mono ?_
  rintro e wq ⟨rfl, rfl⟩
  go_wp2_with fail
  refine (HI.out _).mono ?_
  rintro e wq ⟨rfl, rfl⟩
  go_wp2_with fail
  refine (HS9.out _).mono ?_
  rintro e wz ⟨rfl, rfl⟩
  have HX4 := Lib.hid (HX3.out.set4 z)
  have HR4 := Lib.hid (HR3.out.off (q := w.heap.size + 1) (j := 4) (by omega) (.int .i64 z))
  have HB4 := Lib.hid (HB3.out.setCell (p := ⟨w.heap.size + 1, 4, none⟩) (Nat.le_succ _) (.int .i64 z))
  obtain ⟨⟨y0, y1, y2, y3, y4, _⟩, yf⟩ := HX4.out
  go_wp2_with fail
  clear x0 x1 x2 x3 x4 xf
  clear y0 y1 y2 y3 y4 yf
  obtain ⟨⟨x0, x1, x2, x3, x4, _⟩, xf⟩ := HX4.out
  refine (HE.out _).mono ?_
  rintro e we ⟨rfl, hw⟩
  clear x0 x1 x2 x3 x4 xf
  have HX9 := Lib.hid (HX4.out.below hw)
  have HR9 := Lib.hid (HR4.out.below hw)
  have HB9 := Lib.hid (HB4.out.trans (hw.mono HB4.out.size))
  clear hw
  obtain ⟨⟨x0, x1, x2, x3, x4, _⟩, xf⟩ := HX9.out
  obtain ⟨⟨r0, r1, r2, r3, r4, _⟩, rf⟩ := HR9.out
  go_wp2_with fail
  refine bodyPost_ret (v := .tuple #[.agg #[.int .i64 o, .int .i64 d, .int .i64 a, .int .i64 0, .int .i64 z], .int .i64 0]) (by simp [results, Tryd.results41, r0, r1, r2, r3, r4, go_sem]) rfl ?_
  exact ⟨rfl, ((((HB9.out.setCell (p := ⟨w.heap.size, 0, none⟩) (Nat.le_refl _) _).setCell (p := ⟨w.heap.size, 1, none⟩) (Nat.le_refl _) _).setCell (p := ⟨w.heap.size, 2, none⟩) (Nat.le_refl _) _).setCell (p := ⟨w.heap.size, 3, none⟩) (Nat.le_refl _) _).setCell (p := ⟨w.heap.size, 4, none⟩) (Nat.le_refl _) _⟩
set_option maxRecDepth 100000 in
set_option maxHeartbeats 4000000 in
theorem rdecJ_bad (v o m : Nat) (z : Int) (w : World) (hv : v < 4294967296) (ho : (v : Int) / 16777216 = (o : Int)) (ho2 : o ≤ 255) (hm : bits .and .i64 (v : Int) 16777215 = (m : Int)) (hm2 : m ≤ 16777215) (hz : (if (m : Int) < 8388608 then (m : Int) else (m : Int) - 16777216) = z) (hf : RF o = 74) (hE : ∀ W, Calls Tryd.prog 63 #[.agg #[.int .i64 o, .int .i64 0, .int .i64 0, .int .i64 0, .int .i64 z]] W fun e w' => e = .returned (.tuple #[.int .u32 0, .int .i64 20]) ∧ Below W.heap.size W w') :
    Calls Tryd.prog 41 #[.int .u32 v] w fun e w' => e = .returned (.tuple #[.agg #[.int .i64 0, .int .i64 0, .int .i64 0, .int .i64 0, .int .i64 0], .int .i64 20]) ∧ Below w.heap.size w w' := by
  have hF := fun W => rform_any o W
  rw [hf] at hF
  have HF : Hid (∀ W, Calls Tryd.prog 60 #[.int .i64 o] W fun e w' => e = .returned (.int .u8 74) ∧ Below W.heap.size W w') := fun W => (hF W).mono (by rintro e w' ⟨h, rfl⟩; exact ⟨h, Below.refl _ _⟩)
  clear hF
  have HE := Lib.hid hE
  have HD := Lib.hid (fun W => rin_any 74 100 W (by unfold IsF; decide))
  rw [show inB 74 100 = false by decide] at HD
  have HA := Lib.hid (fun W => rin_any 74 97 W (by unfold IsF; decide))
  rw [show inB 74 97 = false by decide] at HA
  have HB := Lib.hid (fun W => rin_any 74 98 W (by unfold IsF; decide))
  rw [show inB 74 98 = false by decide] at HB
  have HI := Lib.hid (fun W => rin_any 74 105 W (by unfold IsF; decide))
  rw [show inB 74 105 = true by decide] at HI
  have hsg := fun W => rsigned_24 m W (by omega) (by omega)
  rw [hz] at hsg
  have HS9 := Lib.hid hsg
  clear hsg hz
  clear hf hE
  have hp : (w.alloc (.cells #[.int .i64 0, .int .i64 0, .int .i64 0, .int .i64 0, .int .i64 0] 65)).heap.size = w.heap.size + 1 := by simp
  have hx0 := IAt.fresh (w.alloc (.cells #[.int .i64 0, .int .i64 0, .int .i64 0, .int .i64 0, .int .i64 0] 65)) o 0 0 0 0 65
  rw [hp] at hx0
  have HX0 := Lib.hid hx0
  have HR0 := Lib.hid ((IAt.fresh w 0 0 0 0 0 65).past (.cells #[.int .i64 o, .int .i64 0, .int .i64 0, .int .i64 0, .int .i64 0] 65))
  have HB0 := Lib.hid ((((Below.refl _ _).alloc (Nat.le_refl _) (.cells #[.int .i64 0, .int .i64 0, .int .i64 0, .int .i64 0, .int .i64 0] 65) : Below w.heap.size w _).alloc (by simp) (.cells #[.int .i64 o, .int .i64 0, .int .i64 0, .int .i64 0, .int .i64 0] 65)))
  clear hx0 hp
  go_enter Tryd.func41, Tryd.ntmps41
  go_wp2_with fail
  refine (HF.out _).mono ?_
  rintro e w1 ⟨rfl, hw⟩
  have HX1 := Lib.hid (HX0.out.below hw)
  have HR1 := Lib.hid (HR0.out.below hw)
  have HB1 := Lib.hid (HB0.out.trans (hw.mono HB0.out.size))
  clear hw
  obtain ⟨⟨x0, x1, x2, x3, x4, _⟩, xf⟩ := HX1.out
  go_wp2_with fail
  refine (HD.out _).mono ?_
  rintro e wq ⟨rfl, rfl⟩
  go_wp2_with fail
  refine (HA.out _).mono ?_
  rintro e wq ⟨rfl, rfl⟩
  go_wp2_with fail
  refine (HB.out _).mono ?_
  rintro e wq ⟨rfl, rfl⟩
  go_wp2_with fail
  refine (HI.out _).mono ?_
  rintro e wq ⟨rfl, rfl⟩
  go_wp2_with fail
  refine (HS9.out _).mono ?_
  rintro e wz ⟨rfl, rfl⟩
  have HX2 := Lib.hid (HX1.out.set4 z)
  have HR2 := Lib.hid (HR1.out.off (q := w.heap.size + 1) (j := 4) (by omega) (.int .i64 z))
  have HB2 := Lib.hid (HB1.out.setCell (p := ⟨w.heap.size + 1, 4, none⟩) (Nat.le_succ _) (.int .i64 z))
  obtain ⟨⟨y0, y1, y2, y3, y4, _⟩, yf⟩ := HX2.out
  go_wp2_with fail
  clear x0 x1 x2 x3 x4 xf
  clear y0 y1 y2 y3 y4 yf
  obtain ⟨⟨x0, x1, x2, x3, x4, _⟩, xf⟩ := HX2.out
  refine (HE.out _).mono ?_
  rintro e we ⟨rfl, hw⟩
  clear x0 x1 x2 x3 x4 xf
  have HX9 := Lib.hid (HX2.out.below hw)
  have HR9 := Lib.hid (HR2.out.below hw)
  have HB9 := Lib.hid (HB2.out.trans (hw.mono HB2.out.size))
  clear hw
  obtain ⟨⟨x0, x1, x2, x3, x4, _⟩, xf⟩ := HX9.out
  obtain ⟨⟨r0, r1, r2, r3, r4, _⟩, rf⟩ := HR9.out
  go_wp2_with fail
  refine bodyPost_ret (v := .tuple #[.agg #[.int .i64 0, .int .i64 0, .int .i64 0, .int .i64 0, .int .i64 0], .int .i64 20]) (by simp [results, Tryd.results41, r0, r1, r2, r3, r4, go_sem]) rfl ?_
  exact ⟨rfl, ((((HB9.out.setCell (p := ⟨w.heap.size, 0, none⟩) (Nat.le_refl _) _).setCell (p := ⟨w.heap.size, 1, none⟩) (Nat.le_refl _) _).setCell (p := ⟨w.heap.size, 2, none⟩) (Nat.le_refl _) _).setCell (p := ⟨w.heap.size, 3, none⟩) (Nat.le_refl _) _).setCell (p := ⟨w.heap.size, 4, none⟩) (Nat.le_refl _) _⟩
set_option maxRecDepth 100000 in
set_option maxHeartbeats 4000000 in
theorem rdecJ_ne (v o m : Nat) (z : Int) (u : Int) (w : World) (hv : v < 4294967296) (ho : (v : Int) / 16777216 = (o : Int)) (ho2 : o ≤ 255) (hm : bits .and .i64 (v : Int) 16777215 = (m : Int)) (hm2 : m ≤ 16777215) (hz : (if (m : Int) < 8388608 then (m : Int) else (m : Int) - 16777216) = z) (hu : (u != (v : Int)) = true) (hf : RF o = 74) (hE : ∀ W, Calls Tryd.prog 63 #[.agg #[.int .i64 o, .int .i64 0, .int .i64 0, .int .i64 0, .int .i64 z]] W fun e w' => e = .returned (.tuple #[.int .u32 u, .int .i64 0]) ∧ Below W.heap.size W w') :
    Calls Tryd.prog 41 #[.int .u32 v] w fun e w' => e = .returned (.tuple #[.agg #[.int .i64 0, .int .i64 0, .int .i64 0, .int .i64 0, .int .i64 0], .int .i64 20]) ∧ Below w.heap.size w w' := by
  have hF := fun W => rform_any o W
  rw [hf] at hF
  have HF : Hid (∀ W, Calls Tryd.prog 60 #[.int .i64 o] W fun e w' => e = .returned (.int .u8 74) ∧ Below W.heap.size W w') := fun W => (hF W).mono (by rintro e w' ⟨h, rfl⟩; exact ⟨h, Below.refl _ _⟩)
  clear hF
  have HE := Lib.hid hE
  have HD := Lib.hid (fun W => rin_any 74 100 W (by unfold IsF; decide))
  rw [show inB 74 100 = false by decide] at HD
  have HA := Lib.hid (fun W => rin_any 74 97 W (by unfold IsF; decide))
  rw [show inB 74 97 = false by decide] at HA
  have HB := Lib.hid (fun W => rin_any 74 98 W (by unfold IsF; decide))
  rw [show inB 74 98 = false by decide] at HB
  have HI := Lib.hid (fun W => rin_any 74 105 W (by unfold IsF; decide))
  rw [show inB 74 105 = true by decide] at HI
  have hsg := fun W => rsigned_24 m W (by omega) (by omega)
  rw [hz] at hsg
  have HS9 := Lib.hid hsg
  clear hsg hz
  clear hf hE
  have hp : (w.alloc (.cells #[.int .i64 0, .int .i64 0, .int .i64 0, .int .i64 0, .int .i64 0] 65)).heap.size = w.heap.size + 1 := by simp
  have hx0 := IAt.fresh (w.alloc (.cells #[.int .i64 0, .int .i64 0, .int .i64 0, .int .i64 0, .int .i64 0] 65)) o 0 0 0 0 65
  rw [hp] at hx0
  have HX0 := Lib.hid hx0
  have HR0 := Lib.hid ((IAt.fresh w 0 0 0 0 0 65).past (.cells #[.int .i64 o, .int .i64 0, .int .i64 0, .int .i64 0, .int .i64 0] 65))
  have HB0 := Lib.hid ((((Below.refl _ _).alloc (Nat.le_refl _) (.cells #[.int .i64 0, .int .i64 0, .int .i64 0, .int .i64 0, .int .i64 0] 65) : Below w.heap.size w _).alloc (by simp) (.cells #[.int .i64 o, .int .i64 0, .int .i64 0, .int .i64 0, .int .i64 0] 65)))
  clear hx0 hp
  go_enter Tryd.func41, Tryd.ntmps41
  go_wp2_with fail
  refine (HF.out _).mono ?_
  rintro e w1 ⟨rfl, hw⟩
  have HX1 := Lib.hid (HX0.out.below hw)
  have HR1 := Lib.hid (HR0.out.below hw)
  have HB1 := Lib.hid (HB0.out.trans (hw.mono HB0.out.size))
  clear hw
  obtain ⟨⟨x0, x1, x2, x3, x4, _⟩, xf⟩ := HX1.out
  go_wp2_with fail
  refine (HD.out _).mono ?_
  rintro e wq ⟨rfl, rfl⟩
  go_wp2_with fail
  refine (HA.out _).mono ?_
  rintro e wq ⟨rfl, rfl⟩
  go_wp2_with fail
  refine (HB.out _).mono ?_
  rintro e wq ⟨rfl, rfl⟩
  go_wp2_with fail
  refine (HI.out _).mono ?_
  rintro e wq ⟨rfl, rfl⟩
  go_wp2_with fail
  refine (HS9.out _).mono ?_
  rintro e wz ⟨rfl, rfl⟩
  have HX2 := Lib.hid (HX1.out.set4 z)
  have HR2 := Lib.hid (HR1.out.off (q := w.heap.size + 1) (j := 4) (by omega) (.int .i64 z))
  have HB2 := Lib.hid (HB1.out.setCell (p := ⟨w.heap.size + 1, 4, none⟩) (Nat.le_succ _) (.int .i64 z))
  obtain ⟨⟨y0, y1, y2, y3, y4, _⟩, yf⟩ := HX2.out
  go_wp2_with fail
  clear x0 x1 x2 x3 x4 xf
  clear y0 y1 y2 y3 y4 yf
  obtain ⟨⟨x0, x1, x2, x3, x4, _⟩, xf⟩ := HX2.out
  refine (HE.out _).mono ?_
  rintro e we ⟨rfl, hw⟩
  clear x0 x1 x2 x3 x4 xf
  have HX9 := Lib.hid (HX2.out.below hw)
  have HR9 := Lib.hid (HR2.out.below hw)
  have HB9 := Lib.hid (HB2.out.trans (hw.mono HB2.out.size))
  clear hw
  obtain ⟨⟨x0, x1, x2, x3, x4, _⟩, xf⟩ := HX9.out
  obtain ⟨⟨r0, r1, r2, r3, r4, _⟩, rf⟩ := HR9.out
  go_wp2_with fail
  refine bodyPost_ret (v := .tuple #[.agg #[.int .i64 0, .int .i64 0, .int .i64 0, .int .i64 0, .int .i64 0], .int .i64 20]) (by simp [results, Tryd.results41, r0, r1, r2, r3, r4, go_sem]) rfl ?_
  exact ⟨rfl, ((((HB9.out.setCell (p := ⟨w.heap.size, 0, none⟩) (Nat.le_refl _) _).setCell (p := ⟨w.heap.size, 1, none⟩) (Nat.le_refl _) _).setCell (p := ⟨w.heap.size, 2, none⟩) (Nat.le_refl _) _).setCell (p := ⟨w.heap.size, 3, none⟩) (Nat.le_refl _) _).setCell (p := ⟨w.heap.size, 4, none⟩) (Nat.le_refl _) _⟩
set_option maxRecDepth 100000 in
set_option maxHeartbeats 4000000 in
theorem rdecJ_eq (v o m : Nat) (z : Int) (w : World) (hv : v < 4294967296) (ho : (v : Int) / 16777216 = (o : Int)) (ho2 : o ≤ 255) (hm : bits .and .i64 (v : Int) 16777215 = (m : Int)) (hm2 : m ≤ 16777215) (hz : (if (m : Int) < 8388608 then (m : Int) else (m : Int) - 16777216) = z) (hf : RF o = 74) (hE : ∀ W, Calls Tryd.prog 63 #[.agg #[.int .i64 o, .int .i64 0, .int .i64 0, .int .i64 0, .int .i64 z]] W fun e w' => e = .returned (.tuple #[.int .u32 v, .int .i64 0]) ∧ Below W.heap.size W w') :
    Calls Tryd.prog 41 #[.int .u32 v] w fun e w' => e = .returned (.tuple #[.agg #[.int .i64 o, .int .i64 0, .int .i64 0, .int .i64 0, .int .i64 z], .int .i64 0]) ∧ Below w.heap.size w w' := by
  have hF := fun W => rform_any o W
  rw [hf] at hF
  have HF : Hid (∀ W, Calls Tryd.prog 60 #[.int .i64 o] W fun e w' => e = .returned (.int .u8 74) ∧ Below W.heap.size W w') := fun W => (hF W).mono (by rintro e w' ⟨h, rfl⟩; exact ⟨h, Below.refl _ _⟩)
  clear hF
  have HE := Lib.hid hE
  have HD := Lib.hid (fun W => rin_any 74 100 W (by unfold IsF; decide))
  rw [show inB 74 100 = false by decide] at HD
  have HA := Lib.hid (fun W => rin_any 74 97 W (by unfold IsF; decide))
  rw [show inB 74 97 = false by decide] at HA
  have HB := Lib.hid (fun W => rin_any 74 98 W (by unfold IsF; decide))
  rw [show inB 74 98 = false by decide] at HB
  have HI := Lib.hid (fun W => rin_any 74 105 W (by unfold IsF; decide))
  rw [show inB 74 105 = true by decide] at HI
  have hsg := fun W => rsigned_24 m W (by omega) (by omega)
  rw [hz] at hsg
  have HS9 := Lib.hid hsg
  clear hsg hz
  clear hf hE
  have hp : (w.alloc (.cells #[.int .i64 0, .int .i64 0, .int .i64 0, .int .i64 0, .int .i64 0] 65)).heap.size = w.heap.size + 1 := by simp
  have hx0 := IAt.fresh (w.alloc (.cells #[.int .i64 0, .int .i64 0, .int .i64 0, .int .i64 0, .int .i64 0] 65)) o 0 0 0 0 65
  rw [hp] at hx0
  have HX0 := Lib.hid hx0
  have HR0 := Lib.hid ((IAt.fresh w 0 0 0 0 0 65).past (.cells #[.int .i64 o, .int .i64 0, .int .i64 0, .int .i64 0, .int .i64 0] 65))
  have HB0 := Lib.hid ((((Below.refl _ _).alloc (Nat.le_refl _) (.cells #[.int .i64 0, .int .i64 0, .int .i64 0, .int .i64 0, .int .i64 0] 65) : Below w.heap.size w _).alloc (by simp) (.cells #[.int .i64 o, .int .i64 0, .int .i64 0, .int .i64 0, .int .i64 0] 65)))
  clear hx0 hp
  go_enter Tryd.func41, Tryd.ntmps41
  go_wp2_with fail
  refine (HF.out _).mono ?_
  rintro e w1 ⟨rfl, hw⟩
  have HX1 := Lib.hid (HX0.out.below hw)
  have HR1 := Lib.hid (HR0.out.below hw)
  have HB1 := Lib.hid (HB0.out.trans (hw.mono HB0.out.size))
  clear hw
  obtain ⟨⟨x0, x1, x2, x3, x4, _⟩, xf⟩ := HX1.out
  go_wp2_with fail
  refine (HD.out _).mono ?_
  rintro e wq ⟨rfl, rfl⟩
  go_wp2_with fail
  refine (HA.out _).mono ?_
  rintro e wq ⟨rfl, rfl⟩
  go_wp2_with fail
  refine (HB.out _).mono ?_
  rintro e wq ⟨rfl, rfl⟩
  go_wp2_with fail
  refine (HI.out _).mono ?_
  rintro e wq ⟨rfl, rfl⟩
  go_wp2_with fail
  refine (HS9.out _).mono ?_
  rintro e wz ⟨rfl, rfl⟩
  have HX2 := Lib.hid (HX1.out.set4 z)
  have HR2 := Lib.hid (HR1.out.off (q := w.heap.size + 1) (j := 4) (by omega) (.int .i64 z))
  have HB2 := Lib.hid (HB1.out.setCell (p := ⟨w.heap.size + 1, 4, none⟩) (Nat.le_succ _) (.int .i64 z))
  obtain ⟨⟨y0, y1, y2, y3, y4, _⟩, yf⟩ := HX2.out
  go_wp2_with fail
  clear x0 x1 x2 x3 x4 xf
  clear y0 y1 y2 y3 y4 yf
  obtain ⟨⟨x0, x1, x2, x3, x4, _⟩, xf⟩ := HX2.out
  refine (HE.out _).mono ?_
  rintro e we ⟨rfl, hw⟩
  clear x0 x1 x2 x3 x4 xf
  have HX9 := Lib.hid (HX2.out.below hw)
  have HR9 := Lib.hid (HR2.out.below hw)
  have HB9 := Lib.hid (HB2.out.trans (hw.mono HB2.out.size))
  clear hw
  obtain ⟨⟨x0, x1, x2, x3, x4, _⟩, xf⟩ := HX9.out
  obtain ⟨⟨r0, r1, r2, r3, r4, _⟩, rf⟩ := HR9.out
  go_wp2_with fail
  refine bodyPost_ret (v := .tuple #[.agg #[.int .i64 o, .int .i64 0, .int .i64 0, .int .i64 0, .int .i64 z], .int .i64 0]) (by simp [results, Tryd.results41, r0, r1, r2, r3, r4, go_sem]) rfl ?_
  exact ⟨rfl, ((((HB9.out.setCell (p := ⟨w.heap.size, 0, none⟩) (Nat.le_refl _) _).setCell (p := ⟨w.heap.size, 1, none⟩) (Nat.le_refl _) _).setCell (p := ⟨w.heap.size, 2, none⟩) (Nat.le_refl _) _).setCell (p := ⟨w.heap.size, 3, none⟩) (Nat.le_refl _) _).setCell (p := ⟨w.heap.size, 4, none⟩) (Nat.le_refl _) _⟩
set_option maxRecDepth 100000 in
set_option maxHeartbeats 4000000 in
theorem rdecW_bad (v o m : Nat) (w : World) (hv : v < 4294967296) (ho : (v : Int) / 16777216 = (o : Int)) (ho2 : o ≤ 255) (hm : bits .and .i64 (v : Int) 65535 = (m : Int)) (hm2 : m ≤ 65535) (hf : RF o = 87) (hE : ∀ W, Calls Tryd.prog 63 #[.agg #[.int .i64 o, .int .i64 0, .int .i64 0, .int .i64 0, .int .i64 m]] W fun e w' => e = .returned (.tuple #[.int .u32 0, .int .i64 20]) ∧ Below W.heap.size W w') :
    Calls Tryd.prog 41 #[.int .u32 v] w fun e w' => e = .returned (.tuple #[.agg #[.int .i64 0, .int .i64 0, .int .i64 0, .int .i64 0, .int .i64 0], .int .i64 20]) ∧ Below w.heap.size w w' := by
  have hF := fun W => rform_any o W
  rw [hf] at hF
  have HF : Hid (∀ W, Calls Tryd.prog 60 #[.int .i64 o] W fun e w' => e = .returned (.int .u8 87) ∧ Below W.heap.size W w') := fun W => (hF W).mono (by rintro e w' ⟨h, rfl⟩; exact ⟨h, Below.refl _ _⟩)
  clear hF
  have HE := Lib.hid hE
  have HD := Lib.hid (fun W => rin_any 87 100 W (by unfold IsF; decide))
  rw [show inB 87 100 = false by decide] at HD
  have HA := Lib.hid (fun W => rin_any 87 97 W (by unfold IsF; decide))
  rw [show inB 87 97 = false by decide] at HA
  have HB := Lib.hid (fun W => rin_any 87 98 W (by unfold IsF; decide))
  rw [show inB 87 98 = false by decide] at HB
  have HI := Lib.hid (fun W => rin_any 87 105 W (by unfold IsF; decide))
  rw [show inB 87 105 = true by decide] at HI
  clear hf hE
  have hp : (w.alloc (.cells #[.int .i64 0, .int .i64 0, .int .i64 0, .int .i64 0, .int .i64 0] 65)).heap.size = w.heap.size + 1 := by simp
  have hx0 := IAt.fresh (w.alloc (.cells #[.int .i64 0, .int .i64 0, .int .i64 0, .int .i64 0, .int .i64 0] 65)) o 0 0 0 0 65
  rw [hp] at hx0
  have HX0 := Lib.hid hx0
  have HR0 := Lib.hid ((IAt.fresh w 0 0 0 0 0 65).past (.cells #[.int .i64 o, .int .i64 0, .int .i64 0, .int .i64 0, .int .i64 0] 65))
  have HB0 := Lib.hid ((((Below.refl _ _).alloc (Nat.le_refl _) (.cells #[.int .i64 0, .int .i64 0, .int .i64 0, .int .i64 0, .int .i64 0] 65) : Below w.heap.size w _).alloc (by simp) (.cells #[.int .i64 o, .int .i64 0, .int .i64 0, .int .i64 0, .int .i64 0] 65)))
  clear hx0 hp
  go_enter Tryd.func41, Tryd.ntmps41
  go_wp2_with fail
  refine (HF.out _).mono ?_
  rintro e w1 ⟨rfl, hw⟩
  have HX1 := Lib.hid (HX0.out.below hw)
  have HR1 := Lib.hid (HR0.out.below hw)
  have HB1 := Lib.hid (HB0.out.trans (hw.mono HB0.out.size))
  clear hw
  obtain ⟨⟨x0, x1, x2, x3, x4, _⟩, xf⟩ := HX1.out
  go_wp2_with fail
  refine (HD.out _).mono ?_
  rintro e wq ⟨rfl, rfl⟩
  go_wp2_with fail
  refine (HA.out _).mono ?_
  rintro e wq ⟨rfl, rfl⟩
  go_wp2_with fail
  refine (HB.out _).mono ?_
  rintro e wq ⟨rfl, rfl⟩
  go_wp2_with fail
  refine (HI.out _).mono ?_
  rintro e wq ⟨rfl, rfl⟩
  have HX2 := Lib.hid (HX1.out.set4 m)
  have HR2 := Lib.hid (HR1.out.off (q := w.heap.size + 1) (j := 4) (by omega) (.int .i64 m))
  have HB2 := Lib.hid (HB1.out.setCell (p := ⟨w.heap.size + 1, 4, none⟩) (Nat.le_succ _) (.int .i64 m))
  obtain ⟨⟨y0, y1, y2, y3, y4, _⟩, yf⟩ := HX2.out
  go_wp2_with fail
  clear x0 x1 x2 x3 x4 xf
  clear y0 y1 y2 y3 y4 yf
  obtain ⟨⟨x0, x1, x2, x3, x4, _⟩, xf⟩ := HX2.out
  refine (HE.out _).mono ?_
  rintro e we ⟨rfl, hw⟩
  clear x0 x1 x2 x3 x4 xf
  have HX9 := Lib.hid (HX2.out.below hw)
  have HR9 := Lib.hid (HR2.out.below hw)
  have HB9 := Lib.hid (HB2.out.trans (hw.mono HB2.out.size))
  clear hw
  obtain ⟨⟨x0, x1, x2, x3, x4, _⟩, xf⟩ := HX9.out
  obtain ⟨⟨r0, r1, r2, r3, r4, _⟩, rf⟩ := HR9.out
  go_wp2_with fail
  refine bodyPost_ret (v := .tuple #[.agg #[.int .i64 0, .int .i64 0, .int .i64 0, .int .i64 0, .int .i64 0], .int .i64 20]) (by simp [results, Tryd.results41, r0, r1, r2, r3, r4, go_sem]) rfl ?_
  exact ⟨rfl, ((((HB9.out.setCell (p := ⟨w.heap.size, 0, none⟩) (Nat.le_refl _) _).setCell (p := ⟨w.heap.size, 1, none⟩) (Nat.le_refl _) _).setCell (p := ⟨w.heap.size, 2, none⟩) (Nat.le_refl _) _).setCell (p := ⟨w.heap.size, 3, none⟩) (Nat.le_refl _) _).setCell (p := ⟨w.heap.size, 4, none⟩) (Nat.le_refl _) _⟩
set_option maxRecDepth 100000 in
set_option maxHeartbeats 4000000 in
theorem rdecW_ne (v o m : Nat) (u : Int) (w : World) (hv : v < 4294967296) (ho : (v : Int) / 16777216 = (o : Int)) (ho2 : o ≤ 255) (hm : bits .and .i64 (v : Int) 65535 = (m : Int)) (hm2 : m ≤ 65535) (hu : (u != (v : Int)) = true) (hf : RF o = 87) (hE : ∀ W, Calls Tryd.prog 63 #[.agg #[.int .i64 o, .int .i64 0, .int .i64 0, .int .i64 0, .int .i64 m]] W fun e w' => e = .returned (.tuple #[.int .u32 u, .int .i64 0]) ∧ Below W.heap.size W w') :
    Calls Tryd.prog 41 #[.int .u32 v] w fun e w' => e = .returned (.tuple #[.agg #[.int .i64 0, .int .i64 0, .int .i64 0, .int .i64 0, .int .i64 0], .int .i64 20]) ∧ Below w.heap.size w w' := by
  have hF := fun W => rform_any o W
  rw [hf] at hF
  have HF : Hid (∀ W, Calls Tryd.prog 60 #[.int .i64 o] W fun e w' => e = .returned (.int .u8 87) ∧ Below W.heap.size W w') := fun W => (hF W).mono (by rintro e w' ⟨h, rfl⟩; exact ⟨h, Below.refl _ _⟩)
  clear hF
  have HE := Lib.hid hE
  have HD := Lib.hid (fun W => rin_any 87 100 W (by unfold IsF; decide))
  rw [show inB 87 100 = false by decide] at HD
  have HA := Lib.hid (fun W => rin_any 87 97 W (by unfold IsF; decide))
  rw [show inB 87 97 = false by decide] at HA
  have HB := Lib.hid (fun W => rin_any 87 98 W (by unfold IsF; decide))
  rw [show inB 87 98 = false by decide] at HB
  have HI := Lib.hid (fun W => rin_any 87 105 W (by unfold IsF; decide))
  rw [show inB 87 105 = true by decide] at HI
  clear hf hE
  have hp : (w.alloc (.cells #[.int .i64 0, .int .i64 0, .int .i64 0, .int .i64 0, .int .i64 0] 65)).heap.size = w.heap.size + 1 := by simp
  have hx0 := IAt.fresh (w.alloc (.cells #[.int .i64 0, .int .i64 0, .int .i64 0, .int .i64 0, .int .i64 0] 65)) o 0 0 0 0 65
  rw [hp] at hx0
  have HX0 := Lib.hid hx0
  have HR0 := Lib.hid ((IAt.fresh w 0 0 0 0 0 65).past (.cells #[.int .i64 o, .int .i64 0, .int .i64 0, .int .i64 0, .int .i64 0] 65))
  have HB0 := Lib.hid ((((Below.refl _ _).alloc (Nat.le_refl _) (.cells #[.int .i64 0, .int .i64 0, .int .i64 0, .int .i64 0, .int .i64 0] 65) : Below w.heap.size w _).alloc (by simp) (.cells #[.int .i64 o, .int .i64 0, .int .i64 0, .int .i64 0, .int .i64 0] 65)))
  clear hx0 hp
  go_enter Tryd.func41, Tryd.ntmps41
  go_wp2_with fail
  refine (HF.out _).mono ?_
  rintro e w1 ⟨rfl, hw⟩
  have HX1 := Lib.hid (HX0.out.below hw)
  have HR1 := Lib.hid (HR0.out.below hw)
  have HB1 := Lib.hid (HB0.out.trans (hw.mono HB0.out.size))
  clear hw
  obtain ⟨⟨x0, x1, x2, x3, x4, _⟩, xf⟩ := HX1.out
  go_wp2_with fail
  refine (HD.out _).mono ?_
  rintro e wq ⟨rfl, rfl⟩
  go_wp2_with fail
  refine (HA.out _).mono ?_
  rintro e wq ⟨rfl, rfl⟩
  go_wp2_with fail
  refine (HB.out _).mono ?_
  rintro e wq ⟨rfl, rfl⟩
  go_wp2_with fail
  refine (HI.out _).mono ?_
  rintro e wq ⟨rfl, rfl⟩
  have HX2 := Lib.hid (HX1.out.set4 m)
  have HR2 := Lib.hid (HR1.out.off (q := w.heap.size + 1) (j := 4) (by omega) (.int .i64 m))
  have HB2 := Lib.hid (HB1.out.setCell (p := ⟨w.heap.size + 1, 4, none⟩) (Nat.le_succ _) (.int .i64 m))
  obtain ⟨⟨y0, y1, y2, y3, y4, _⟩, yf⟩ := HX2.out
  go_wp2_with fail
  clear x0 x1 x2 x3 x4 xf
  clear y0 y1 y2 y3 y4 yf
  obtain ⟨⟨x0, x1, x2, x3, x4, _⟩, xf⟩ := HX2.out
  refine (HE.out _).mono ?_
  rintro e we ⟨rfl, hw⟩
  clear x0 x1 x2 x3 x4 xf
  have HX9 := Lib.hid (HX2.out.below hw)
  have HR9 := Lib.hid (HR2.out.below hw)
  have HB9 := Lib.hid (HB2.out.trans (hw.mono HB2.out.size))
  clear hw
  obtain ⟨⟨x0, x1, x2, x3, x4, _⟩, xf⟩ := HX9.out
  obtain ⟨⟨r0, r1, r2, r3, r4, _⟩, rf⟩ := HR9.out
  go_wp2_with fail
  refine bodyPost_ret (v := .tuple #[.agg #[.int .i64 0, .int .i64 0, .int .i64 0, .int .i64 0, .int .i64 0], .int .i64 20]) (by simp [results, Tryd.results41, r0, r1, r2, r3, r4, go_sem]) rfl ?_
  exact ⟨rfl, ((((HB9.out.setCell (p := ⟨w.heap.size, 0, none⟩) (Nat.le_refl _) _).setCell (p := ⟨w.heap.size, 1, none⟩) (Nat.le_refl _) _).setCell (p := ⟨w.heap.size, 2, none⟩) (Nat.le_refl _) _).setCell (p := ⟨w.heap.size, 3, none⟩) (Nat.le_refl _) _).setCell (p := ⟨w.heap.size, 4, none⟩) (Nat.le_refl _) _⟩
set_option maxRecDepth 100000 in
set_option maxHeartbeats 4000000 in
theorem rdecW_eq (v o m : Nat) (w : World) (hv : v < 4294967296) (ho : (v : Int) / 16777216 = (o : Int)) (ho2 : o ≤ 255) (hm : bits .and .i64 (v : Int) 65535 = (m : Int)) (hm2 : m ≤ 65535) (hf : RF o = 87) (hE : ∀ W, Calls Tryd.prog 63 #[.agg #[.int .i64 o, .int .i64 0, .int .i64 0, .int .i64 0, .int .i64 m]] W fun e w' => e = .returned (.tuple #[.int .u32 v, .int .i64 0]) ∧ Below W.heap.size W w') :
    Calls Tryd.prog 41 #[.int .u32 v] w fun e w' => e = .returned (.tuple #[.agg #[.int .i64 o, .int .i64 0, .int .i64 0, .int .i64 0, .int .i64 m], .int .i64 0]) ∧ Below w.heap.size w w' := by
  have hF := fun W => rform_any o W
  rw [hf] at hF
  have HF : Hid (∀ W, Calls Tryd.prog 60 #[.int .i64 o] W fun e w' => e = .returned (.int .u8 87) ∧ Below W.heap.size W w') := fun W => (hF W).mono (by rintro e w' ⟨h, rfl⟩; exact ⟨h, Below.refl _ _⟩)
  clear hF
  have HE := Lib.hid hE
  have HD := Lib.hid (fun W => rin_any 87 100 W (by unfold IsF; decide))
  rw [show inB 87 100 = false by decide] at HD
  have HA := Lib.hid (fun W => rin_any 87 97 W (by unfold IsF; decide))
  rw [show inB 87 97 = false by decide] at HA
  have HB := Lib.hid (fun W => rin_any 87 98 W (by unfold IsF; decide))
  rw [show inB 87 98 = false by decide] at HB
  have HI := Lib.hid (fun W => rin_any 87 105 W (by unfold IsF; decide))
  rw [show inB 87 105 = true by decide] at HI
  clear hf hE
  have hp : (w.alloc (.cells #[.int .i64 0, .int .i64 0, .int .i64 0, .int .i64 0, .int .i64 0] 65)).heap.size = w.heap.size + 1 := by simp
  have hx0 := IAt.fresh (w.alloc (.cells #[.int .i64 0, .int .i64 0, .int .i64 0, .int .i64 0, .int .i64 0] 65)) o 0 0 0 0 65
  rw [hp] at hx0
  have HX0 := Lib.hid hx0
  have HR0 := Lib.hid ((IAt.fresh w 0 0 0 0 0 65).past (.cells #[.int .i64 o, .int .i64 0, .int .i64 0, .int .i64 0, .int .i64 0] 65))
  have HB0 := Lib.hid ((((Below.refl _ _).alloc (Nat.le_refl _) (.cells #[.int .i64 0, .int .i64 0, .int .i64 0, .int .i64 0, .int .i64 0] 65) : Below w.heap.size w _).alloc (by simp) (.cells #[.int .i64 o, .int .i64 0, .int .i64 0, .int .i64 0, .int .i64 0] 65)))
  clear hx0 hp
  go_enter Tryd.func41, Tryd.ntmps41
  go_wp2_with fail
  refine (HF.out _).mono ?_
  rintro e w1 ⟨rfl, hw⟩
  have HX1 := Lib.hid (HX0.out.below hw)
  have HR1 := Lib.hid (HR0.out.below hw)
  have HB1 := Lib.hid (HB0.out.trans (hw.mono HB0.out.size))
  clear hw
  obtain ⟨⟨x0, x1, x2, x3, x4, _⟩, xf⟩ := HX1.out
  go_wp2_with fail
  refine (HD.out _).mono ?_
  rintro e wq ⟨rfl, rfl⟩
  go_wp2_with fail
  refine (HA.out _).mono ?_
  rintro e wq ⟨rfl, rfl⟩
  go_wp2_with fail
  refine (HB.out _).mono ?_
  rintro e wq ⟨rfl, rfl⟩
  go_wp2_with fail
  refine (HI.out _).mono ?_
  rintro e wq ⟨rfl, rfl⟩
  have HX2 := Lib.hid (HX1.out.set4 m)
  have HR2 := Lib.hid (HR1.out.off (q := w.heap.size + 1) (j := 4) (by omega) (.int .i64 m))
  have HB2 := Lib.hid (HB1.out.setCell (p := ⟨w.heap.size + 1, 4, none⟩) (Nat.le_succ _) (.int .i64 m))
  obtain ⟨⟨y0, y1, y2, y3, y4, _⟩, yf⟩ := HX2.out
  go_wp2_with fail
  clear x0 x1 x2 x3 x4 xf
  clear y0 y1 y2 y3 y4 yf
  obtain ⟨⟨x0, x1, x2, x3, x4, _⟩, xf⟩ := HX2.out
  refine (HE.out _).mono ?_
  rintro e we ⟨rfl, hw⟩
  clear x0 x1 x2 x3 x4 xf
  have HX9 := Lib.hid (HX2.out.below hw)
  have HR9 := Lib.hid (HR2.out.below hw)
  have HB9 := Lib.hid (HB2.out.trans (hw.mono HB2.out.size))
  clear hw
  obtain ⟨⟨x0, x1, x2, x3, x4, _⟩, xf⟩ := HX9.out
  obtain ⟨⟨r0, r1, r2, r3, r4, _⟩, rf⟩ := HR9.out
  go_wp2_with fail
  refine bodyPost_ret (v := .tuple #[.agg #[.int .i64 o, .int .i64 0, .int .i64 0, .int .i64 0, .int .i64 m], .int .i64 0]) (by simp [results, Tryd.results41, r0, r1, r2, r3, r4, go_sem]) rfl ?_
  exact ⟨rfl, ((((HB9.out.setCell (p := ⟨w.heap.size, 0, none⟩) (Nat.le_refl _) _).setCell (p := ⟨w.heap.size, 1, none⟩) (Nat.le_refl _) _).setCell (p := ⟨w.heap.size, 2, none⟩) (Nat.le_refl _) _).setCell (p := ⟨w.heap.size, 3, none⟩) (Nat.le_refl _) _).setCell (p := ⟨w.heap.size, 4, none⟩) (Nat.le_refl _) _⟩
set_option maxRecDepth 100000 in
set_option maxHeartbeats 4000000 in
theorem rdecG_bad (v o a : Nat) (w : World) (hv : v < 4294967296) (ho : (v : Int) / 16777216 = (o : Int)) (ho2 : o ≤ 255) (ha : bits .and .i64 ((v : Int) / 65536) 15 = (a : Int)) (ha2 : a ≤ 15) (hf : RF o = 71) (hE : ∀ W, Calls Tryd.prog 63 #[.agg #[.int .i64 o, .int .i64 0, .int .i64 a, .int .i64 0, .int .i64 0]] W fun e w' => e = .returned (.tuple #[.int .u32 0, .int .i64 20]) ∧ Below W.heap.size W w') :
    Calls Tryd.prog 41 #[.int .u32 v] w fun e w' => e = .returned (.tuple #[.agg #[.int .i64 0, .int .i64 0, .int .i64 0, .int .i64 0, .int .i64 0], .int .i64 20]) ∧ Below w.heap.size w w' := by
  have hF := fun W => rform_any o W
  rw [hf] at hF
  have HF : Hid (∀ W, Calls Tryd.prog 60 #[.int .i64 o] W fun e w' => e = .returned (.int .u8 71) ∧ Below W.heap.size W w') := fun W => (hF W).mono (by rintro e w' ⟨h, rfl⟩; exact ⟨h, Below.refl _ _⟩)
  clear hF
  have HE := Lib.hid hE
  have HD := Lib.hid (fun W => rin_any 71 100 W (by unfold IsF; decide))
  rw [show inB 71 100 = false by decide] at HD
  have HA := Lib.hid (fun W => rin_any 71 97 W (by unfold IsF; decide))
  rw [show inB 71 97 = true by decide] at HA
  have HB := Lib.hid (fun W => rin_any 71 98 W (by unfold IsF; decide))
  rw [show inB 71 98 = false by decide] at HB
  have HI := Lib.hid (fun W => rin_any 71 105 W (by unfold IsF; decide))
  rw [show inB 71 105 = false by decide] at HI
  clear hf hE
  have hp : (w.alloc (.cells #[.int .i64 0, .int .i64 0, .int .i64 0, .int .i64 0, .int .i64 0] 65)).heap.size = w.heap.size + 1 := by simp
  have hx0 := IAt.fresh (w.alloc (.cells #[.int .i64 0, .int .i64 0, .int .i64 0, .int .i64 0, .int .i64 0] 65)) o 0 0 0 0 65
  rw [hp] at hx0
  have HX0 := Lib.hid hx0
  have HR0 := Lib.hid ((IAt.fresh w 0 0 0 0 0 65).past (.cells #[.int .i64 o, .int .i64 0, .int .i64 0, .int .i64 0, .int .i64 0] 65))
  have HB0 := Lib.hid ((((Below.refl _ _).alloc (Nat.le_refl _) (.cells #[.int .i64 0, .int .i64 0, .int .i64 0, .int .i64 0, .int .i64 0] 65) : Below w.heap.size w _).alloc (by simp) (.cells #[.int .i64 o, .int .i64 0, .int .i64 0, .int .i64 0, .int .i64 0] 65)))
  clear hx0 hp
  go_enter Tryd.func41, Tryd.ntmps41
  go_wp2_with fail
  refine (HF.out _).mono ?_
  rintro e w1 ⟨rfl, hw⟩
  have HX1 := Lib.hid (HX0.out.below hw)
  have HR1 := Lib.hid (HR0.out.below hw)
  have HB1 := Lib.hid (HB0.out.trans (hw.mono HB0.out.size))
  clear hw
  obtain ⟨⟨x0, x1, x2, x3, x4, _⟩, xf⟩ := HX1.out
  go_wp2_with fail
  refine (HD.out _).mono ?_
  rintro e wq ⟨rfl, rfl⟩
  go_wp2_with fail
  refine (HA.out _).mono ?_
  rintro e wq ⟨rfl, rfl⟩
  have HX2 := Lib.hid (HX1.out.set2 a)
  have HR2 := Lib.hid (HR1.out.off (q := w.heap.size + 1) (j := 2) (by omega) (.int .i64 a))
  have HB2 := Lib.hid (HB1.out.setCell (p := ⟨w.heap.size + 1, 2, none⟩) (Nat.le_succ _) (.int .i64 a))
  obtain ⟨⟨y0, y1, y2, y3, y4, _⟩, yf⟩ := HX2.out
  go_wp2_with fail
  clear x0 x1 x2 x3 x4 xf
  clear y0 y1 y2 y3 y4 yf
  obtain ⟨⟨x0, x1, x2, x3, x4, _⟩, xf⟩ := HX2.out
  refine (HB.out _).mono ?_
  rintro e wq ⟨rfl, rfl⟩
  go_wp2_with fail
  refine (HI.out _).mono ?_
  rintro e wq ⟨rfl, rfl⟩
  go_wp2_with fail
  refine (HE.out _).mono ?_
  rintro e we ⟨rfl, hw⟩
  clear x0 x1 x2 x3 x4 xf
  have HX9 := Lib.hid (HX2.out.below hw)
  have HR9 := Lib.hid (HR2.out.below hw)
  have HB9 := Lib.hid (HB2.out.trans (hw.mono HB2.out.size))
  clear hw
  obtain ⟨⟨x0, x1, x2, x3, x4, _⟩, xf⟩ := HX9.out
  obtain ⟨⟨r0, r1, r2, r3, r4, _⟩, rf⟩ := HR9.out
  go_wp2_with fail
  refine bodyPost_ret (v := .tuple #[.agg #[.int .i64 0, .int .i64 0, .int .i64 0, .int .i64 0, .int .i64 0], .int .i64 20]) (by simp [results, Tryd.results41, r0, r1, r2, r3, r4, go_sem]) rfl ?_
  exact ⟨rfl, ((((HB9.out.setCell (p := ⟨w.heap.size, 0, none⟩) (Nat.le_refl _) _).setCell (p := ⟨w.heap.size, 1, none⟩) (Nat.le_refl _) _).setCell (p := ⟨w.heap.size, 2, none⟩) (Nat.le_refl _) _).setCell (p := ⟨w.heap.size, 3, none⟩) (Nat.le_refl _) _).setCell (p := ⟨w.heap.size, 4, none⟩) (Nat.le_refl _) _⟩
set_option maxRecDepth 100000 in
set_option maxHeartbeats 4000000 in
theorem rdecG_ne (v o a : Nat) (u : Int) (w : World) (hv : v < 4294967296) (ho : (v : Int) / 16777216 = (o : Int)) (ho2 : o ≤ 255) (ha : bits .and .i64 ((v : Int) / 65536) 15 = (a : Int)) (ha2 : a ≤ 15) (hu : (u != (v : Int)) = true) (hf : RF o = 71) (hE : ∀ W, Calls Tryd.prog 63 #[.agg #[.int .i64 o, .int .i64 0, .int .i64 a, .int .i64 0, .int .i64 0]] W fun e w' => e = .returned (.tuple #[.int .u32 u, .int .i64 0]) ∧ Below W.heap.size W w') :
    Calls Tryd.prog 41 #[.int .u32 v] w fun e w' => e = .returned (.tuple #[.agg #[.int .i64 0, .int .i64 0, .int .i64 0, .int .i64 0, .int .i64 0], .int .i64 20]) ∧ Below w.heap.size w w' := by
  have hF := fun W => rform_any o W
  rw [hf] at hF
  have HF : Hid (∀ W, Calls Tryd.prog 60 #[.int .i64 o] W fun e w' => e = .returned (.int .u8 71) ∧ Below W.heap.size W w') := fun W => (hF W).mono (by rintro e w' ⟨h, rfl⟩; exact ⟨h, Below.refl _ _⟩)
  clear hF
  have HE := Lib.hid hE
  have HD := Lib.hid (fun W => rin_any 71 100 W (by unfold IsF; decide))
  rw [show inB 71 100 = false by decide] at HD
  have HA := Lib.hid (fun W => rin_any 71 97 W (by unfold IsF; decide))
  rw [show inB 71 97 = true by decide] at HA
  have HB := Lib.hid (fun W => rin_any 71 98 W (by unfold IsF; decide))
  rw [show inB 71 98 = false by decide] at HB
  have HI := Lib.hid (fun W => rin_any 71 105 W (by unfold IsF; decide))
  rw [show inB 71 105 = false by decide] at HI
  clear hf hE
  have hp : (w.alloc (.cells #[.int .i64 0, .int .i64 0, .int .i64 0, .int .i64 0, .int .i64 0] 65)).heap.size = w.heap.size + 1 := by simp
  have hx0 := IAt.fresh (w.alloc (.cells #[.int .i64 0, .int .i64 0, .int .i64 0, .int .i64 0, .int .i64 0] 65)) o 0 0 0 0 65
  rw [hp] at hx0
  have HX0 := Lib.hid hx0
  have HR0 := Lib.hid ((IAt.fresh w 0 0 0 0 0 65).past (.cells #[.int .i64 o, .int .i64 0, .int .i64 0, .int .i64 0, .int .i64 0] 65))
  have HB0 := Lib.hid ((((Below.refl _ _).alloc (Nat.le_refl _) (.cells #[.int .i64 0, .int .i64 0, .int .i64 0, .int .i64 0, .int .i64 0] 65) : Below w.heap.size w _).alloc (by simp) (.cells #[.int .i64 o, .int .i64 0, .int .i64 0, .int .i64 0, .int .i64 0] 65)))
  clear hx0 hp
  go_enter Tryd.func41, Tryd.ntmps41
  go_wp2_with fail
  refine (HF.out _).mono ?_
  rintro e w1 ⟨rfl, hw⟩
  have HX1 := Lib.hid (HX0.out.below hw)
  have HR1 := Lib.hid (HR0.out.below hw)
  have HB1 := Lib.hid (HB0.out.trans (hw.mono HB0.out.size))
  clear hw
  obtain ⟨⟨x0, x1, x2, x3, x4, _⟩, xf⟩ := HX1.out
  go_wp2_with fail
  refine (HD.out _).mono ?_
  rintro e wq ⟨rfl, rfl⟩
  go_wp2_with fail
  refine (HA.out _).mono ?_
  rintro e wq ⟨rfl, rfl⟩
  have HX2 := Lib.hid (HX1.out.set2 a)
  have HR2 := Lib.hid (HR1.out.off (q := w.heap.size + 1) (j := 2) (by omega) (.int .i64 a))
  have HB2 := Lib.hid (HB1.out.setCell (p := ⟨w.heap.size + 1, 2, none⟩) (Nat.le_succ _) (.int .i64 a))
  obtain ⟨⟨y0, y1, y2, y3, y4, _⟩, yf⟩ := HX2.out
  go_wp2_with fail
  clear x0 x1 x2 x3 x4 xf
  clear y0 y1 y2 y3 y4 yf
  obtain ⟨⟨x0, x1, x2, x3, x4, _⟩, xf⟩ := HX2.out
  refine (HB.out _).mono ?_
  rintro e wq ⟨rfl, rfl⟩
  go_wp2_with fail
  refine (HI.out _).mono ?_
  rintro e wq ⟨rfl, rfl⟩
  go_wp2_with fail
  refine (HE.out _).mono ?_
  rintro e we ⟨rfl, hw⟩
  clear x0 x1 x2 x3 x4 xf
  have HX9 := Lib.hid (HX2.out.below hw)
  have HR9 := Lib.hid (HR2.out.below hw)
  have HB9 := Lib.hid (HB2.out.trans (hw.mono HB2.out.size))
  clear hw
  obtain ⟨⟨x0, x1, x2, x3, x4, _⟩, xf⟩ := HX9.out
  obtain ⟨⟨r0, r1, r2, r3, r4, _⟩, rf⟩ := HR9.out
  go_wp2_with fail
  refine bodyPost_ret (v := .tuple #[.agg #[.int .i64 0, .int .i64 0, .int .i64 0, .int .i64 0, .int .i64 0], .int .i64 20]) (by simp [results, Tryd.results41, r0, r1, r2, r3, r4, go_sem]) rfl ?_
  exact ⟨rfl, ((((HB9.out.setCell (p := ⟨w.heap.size, 0, none⟩) (Nat.le_refl _) _).setCell (p := ⟨w.heap.size, 1, none⟩) (Nat.le_refl _) _).setCell (p := ⟨w.heap.size, 2, none⟩) (Nat.le_refl _) _).setCell (p := ⟨w.heap.size, 3, none⟩) (Nat.le_refl _) _).setCell (p := ⟨w.heap.size, 4, none⟩) (Nat.le_refl _) _⟩
set_option maxRecDepth 100000 in
set_option maxHeartbeats 4000000 in
theorem rdecG_eq (v o a : Nat) (w : World) (hv : v < 4294967296) (ho : (v : Int) / 16777216 = (o : Int)) (ho2 : o ≤ 255) (ha : bits .and .i64 ((v : Int) / 65536) 15 = (a : Int)) (ha2 : a ≤ 15) (hf : RF o = 71) (hE : ∀ W, Calls Tryd.prog 63 #[.agg #[.int .i64 o, .int .i64 0, .int .i64 a, .int .i64 0, .int .i64 0]] W fun e w' => e = .returned (.tuple #[.int .u32 v, .int .i64 0]) ∧ Below W.heap.size W w') :
    Calls Tryd.prog 41 #[.int .u32 v] w fun e w' => e = .returned (.tuple #[.agg #[.int .i64 o, .int .i64 0, .int .i64 a, .int .i64 0, .int .i64 0], .int .i64 0]) ∧ Below w.heap.size w w' := by
  have hF := fun W => rform_any o W
  rw [hf] at hF
  have HF : Hid (∀ W, Calls Tryd.prog 60 #[.int .i64 o] W fun e w' => e = .returned (.int .u8 71) ∧ Below W.heap.size W w') := fun W => (hF W).mono (by rintro e w' ⟨h, rfl⟩; exact ⟨h, Below.refl _ _⟩)
  clear hF
  have HE := Lib.hid hE
  have HD := Lib.hid (fun W => rin_any 71 100 W (by unfold IsF; decide))
  rw [show inB 71 100 = false by decide] at HD
  have HA := Lib.hid (fun W => rin_any 71 97 W (by unfold IsF; decide))
  rw [show inB 71 97 = true by decide] at HA
  have HB := Lib.hid (fun W => rin_any 71 98 W (by unfold IsF; decide))
  rw [show inB 71 98 = false by decide] at HB
  have HI := Lib.hid (fun W => rin_any 71 105 W (by unfold IsF; decide))
  rw [show inB 71 105 = false by decide] at HI
  clear hf hE
  have hp : (w.alloc (.cells #[.int .i64 0, .int .i64 0, .int .i64 0, .int .i64 0, .int .i64 0] 65)).heap.size = w.heap.size + 1 := by simp
  have hx0 := IAt.fresh (w.alloc (.cells #[.int .i64 0, .int .i64 0, .int .i64 0, .int .i64 0, .int .i64 0] 65)) o 0 0 0 0 65
  rw [hp] at hx0
  have HX0 := Lib.hid hx0
  have HR0 := Lib.hid ((IAt.fresh w 0 0 0 0 0 65).past (.cells #[.int .i64 o, .int .i64 0, .int .i64 0, .int .i64 0, .int .i64 0] 65))
  have HB0 := Lib.hid ((((Below.refl _ _).alloc (Nat.le_refl _) (.cells #[.int .i64 0, .int .i64 0, .int .i64 0, .int .i64 0, .int .i64 0] 65) : Below w.heap.size w _).alloc (by simp) (.cells #[.int .i64 o, .int .i64 0, .int .i64 0, .int .i64 0, .int .i64 0] 65)))
  clear hx0 hp
  go_enter Tryd.func41, Tryd.ntmps41
  go_wp2_with fail
  refine (HF.out _).mono ?_
  rintro e w1 ⟨rfl, hw⟩
  have HX1 := Lib.hid (HX0.out.below hw)
  have HR1 := Lib.hid (HR0.out.below hw)
  have HB1 := Lib.hid (HB0.out.trans (hw.mono HB0.out.size))
  clear hw
  obtain ⟨⟨x0, x1, x2, x3, x4, _⟩, xf⟩ := HX1.out
  go_wp2_with fail
  refine (HD.out _).mono ?_
  rintro e wq ⟨rfl, rfl⟩
  go_wp2_with fail
  refine (HA.out _).mono ?_
  rintro e wq ⟨rfl, rfl⟩
  have HX2 := Lib.hid (HX1.out.set2 a)
  have HR2 := Lib.hid (HR1.out.off (q := w.heap.size + 1) (j := 2) (by omega) (.int .i64 a))
  have HB2 := Lib.hid (HB1.out.setCell (p := ⟨w.heap.size + 1, 2, none⟩) (Nat.le_succ _) (.int .i64 a))
  obtain ⟨⟨y0, y1, y2, y3, y4, _⟩, yf⟩ := HX2.out
  go_wp2_with fail
  clear x0 x1 x2 x3 x4 xf
  clear y0 y1 y2 y3 y4 yf
  obtain ⟨⟨x0, x1, x2, x3, x4, _⟩, xf⟩ := HX2.out
  refine (HB.out _).mono ?_
  rintro e wq ⟨rfl, rfl⟩
  go_wp2_with fail
  refine (HI.out _).mono ?_
  rintro e wq ⟨rfl, rfl⟩
  go_wp2_with fail
  refine (HE.out _).mono ?_
  rintro e we ⟨rfl, hw⟩
  clear x0 x1 x2 x3 x4 xf
  have HX9 := Lib.hid (HX2.out.below hw)
  have HR9 := Lib.hid (HR2.out.below hw)
  have HB9 := Lib.hid (HB2.out.trans (hw.mono HB2.out.size))
  clear hw
  obtain ⟨⟨x0, x1, x2, x3, x4, _⟩, xf⟩ := HX9.out
  obtain ⟨⟨r0, r1, r2, r3, r4, _⟩, rf⟩ := HR9.out
  go_wp2_with fail
  refine bodyPost_ret (v := .tuple #[.agg #[.int .i64 o, .int .i64 0, .int .i64 a, .int .i64 0, .int .i64 0], .int .i64 0]) (by simp [results, Tryd.results41, r0, r1, r2, r3, r4, go_sem]) rfl ?_
  exact ⟨rfl, ((((HB9.out.setCell (p := ⟨w.heap.size, 0, none⟩) (Nat.le_refl _) _).setCell (p := ⟨w.heap.size, 1, none⟩) (Nat.le_refl _) _).setCell (p := ⟨w.heap.size, 2, none⟩) (Nat.le_refl _) _).setCell (p := ⟨w.heap.size, 3, none⟩) (Nat.le_refl _) _).setCell (p := ⟨w.heap.size, 4, none⟩) (Nat.le_refl _) _⟩
set_option maxRecDepth 100000 in
set_option maxHeartbeats 4000000 in
theorem rdecN_bad (v o : Nat) (w : World) (hv : v < 4294967296) (ho : (v : Int) / 16777216 = (o : Int)) (ho2 : o ≤ 255) (hf : RF o = 32) (hE : ∀ W, Calls Tryd.prog 63 #[.agg #[.int .i64 o, .int .i64 0, .int .i64 0, .int .i64 0, .int .i64 0]] W fun e w' => e = .returned (.tuple #[.int .u32 0, .int .i64 20]) ∧ Below W.heap.size W w') :
    Calls Tryd.prog 41 #[.int .u32 v] w fun e w' => e = .returned (.tuple #[.agg #[.int .i64 0, .int .i64 0, .int .i64 0, .int .i64 0, .int .i64 0], .int .i64 20]) ∧ Below w.heap.size w w' := by
  have hF := fun W => rform_any o W
  rw [hf] at hF
  have HF : Hid (∀ W, Calls Tryd.prog 60 #[.int .i64 o] W fun e w' => e = .returned (.int .u8 32) ∧ Below W.heap.size W w') := fun W => (hF W).mono (by rintro e w' ⟨h, rfl⟩; exact ⟨h, Below.refl _ _⟩)
  clear hF
  have HE := Lib.hid hE
  have HD := Lib.hid (fun W => rin_any 32 100 W (by unfold IsF; decide))
  rw [show inB 32 100 = false by decide] at HD
  have HA := Lib.hid (fun W => rin_any 32 97 W (by unfold IsF; decide))
  rw [show inB 32 97 = false by decide] at HA
  have HB := Lib.hid (fun W => rin_any 32 98 W (by unfold IsF; decide))
  rw [show inB 32 98 = false by decide] at HB
  have HI := Lib.hid (fun W => rin_any 32 105 W (by unfold IsF; decide))
  rw [show inB 32 105 = false by decide] at HI
  clear hf hE
  have hp : (w.alloc (.cells #[.int .i64 0, .int .i64 0, .int .i64 0, .int .i64 0, .int .i64 0] 65)).heap.size = w.heap.size + 1 := by simp
  have hx0 := IAt.fresh (w.alloc (.cells #[.int .i64 0, .int .i64 0, .int .i64 0, .int .i64 0, .int .i64 0] 65)) o 0 0 0 0 65
  rw [hp] at hx0
  have HX0 := Lib.hid hx0
  have HR0 := Lib.hid ((IAt.fresh w 0 0 0 0 0 65).past (.cells #[.int .i64 o, .int .i64 0, .int .i64 0, .int .i64 0, .int .i64 0] 65))
  have HB0 := Lib.hid ((((Below.refl _ _).alloc (Nat.le_refl _) (.cells #[.int .i64 0, .int .i64 0, .int .i64 0, .int .i64 0, .int .i64 0] 65) : Below w.heap.size w _).alloc (by simp) (.cells #[.int .i64 o, .int .i64 0, .int .i64 0, .int .i64 0, .int .i64 0] 65)))
  clear hx0 hp
  go_enter Tryd.func41, Tryd.ntmps41
  go_wp2_with fail
  refine (HF.out _).mono ?_
  rintro e w1 ⟨rfl, hw⟩
  have HX1 := Lib.hid (HX0.out.below hw)
  have HR1 := Lib.hid (HR0.out.below hw)
  have HB1 := Lib.hid (HB0.out.trans (hw.mono HB0.out.size))
  clear hw
  obtain ⟨⟨x0, x1, x2, x3, x4, _⟩, xf⟩ := HX1.out
  go_wp2_with fail
  refine (HD.out _).mono ?_
  rintro e wq ⟨rfl, rfl⟩
  go_wp2_with fail
  refine (HA.out _).mono ?_
  rintro e wq ⟨rfl, rfl⟩
  go_wp2_with fail
  refine (HB.out _).mono ?_
  rintro e wq ⟨rfl, rfl⟩
  go_wp2_with fail
  refine (HI.out _).mono ?_
  rintro e wq ⟨rfl, rfl⟩
  go_wp2_with fail
  refine (HE.out _).mono ?_
  rintro e we ⟨rfl, hw⟩
  clear x0 x1 x2 x3 x4 xf
  have HX9 := Lib.hid (HX1.out.below hw)
  have HR9 := Lib.hid (HR1.out.below hw)
  have HB9 := Lib.hid (HB1.out.trans (hw.mono HB1.out.size))
  clear hw
  obtain ⟨⟨x0, x1, x2, x3, x4, _⟩, xf⟩ := HX9.out
  obtain ⟨⟨r0, r1, r2, r3, r4, _⟩, rf⟩ := HR9.out
  go_wp2_with fail
  refine bodyPost_ret (v := .tuple #[.agg #[.int .i64 0, .int .i64 0, .int .i64 0, .int .i64 0, .int .i64 0], .int .i64 20]) (by simp [results, Tryd.results41, r0, r1, r2, r3, r4, go_sem]) rfl ?_
  exact ⟨rfl, ((((HB9.out.setCell (p := ⟨w.heap.size, 0, none⟩) (Nat.le_refl _) _).setCell (p := ⟨w.heap.size, 1, none⟩) (Nat.le_refl _) _).setCell (p := ⟨w.heap.size, 2, none⟩) (Nat.le_refl _) _).setCell (p := ⟨w.heap.size, 3, none⟩) (Nat.le_refl _) _).setCell (p := ⟨w.heap.size, 4, none⟩) (Nat.le_refl _) _⟩
end Go.Proofs.YtlgdfacaeahcaaaDoor
