/- Walks: isa.Encode; word.Ext, word.Signed; what lies in blocks. Conditions: what each states. -/
import Derived.Test.YteoglkofeogknaaGreatDoorDB
set_option linter.unusedVariables false
set_option linter.unusedSimpArgs false
namespace Go.Proofs.YteoglkofeogknaaGreatDoor
open Go.RowKit
theorem FM_bits (n : Int) : (FM n).2.2.2.1 = 0 ∨ (FM n).2.2.2.1 = 16 ∨ (FM n).2.2.2.1 = 24 := by
  unfold FM
  by_cases h0 : 1 ≤ n ∧ n ≤ 17
  · rw [if_pos h0]; simp
  rw [if_neg h0]
  by_cases h1 : n = 18 ∨ 28 ≤ n ∧ n ≤ 33
  · rw [if_pos h1]; simp
  rw [if_neg h1]
  by_cases h2 : n = 19 ∨ n = 20 ∨ n = 21
  · rw [if_pos h2]; simp
  rw [if_neg h2]
  by_cases h3 : n = 22 ∨ n = 23 ∨ n = 24
  · rw [if_pos h3]; simp
  rw [if_neg h3]
  by_cases h4 : n = 25
  · rw [if_pos h4]; simp
  rw [if_neg h4]
  by_cases h5 : n = 26
  · rw [if_pos h5]; simp
  rw [if_neg h5]
  by_cases h6 : n = 27
  · rw [if_pos h6]; simp
  rw [if_neg h6]
  by_cases h7 : n = 34 ∨ n = 35
  · rw [if_pos h7]; simp
  rw [if_neg h7]
  by_cases h8 : n = 36
  · rw [if_pos h8]; simp
  rw [if_neg h8]
  by_cases h9 : n = 37 ∨ n = 38
  · rw [if_pos h9]; simp
  rw [if_neg h9]
  by_cases h10 : n = 39 ∨ n = 40
  · rw [if_pos h10]; simp
  rw [if_neg h10]
  by_cases h11 : n = 41 ∨ n = 42
  · rw [if_pos h11]; simp
  rw [if_neg h11]
  simp
/-- The word's fields above the number. -/
def headW (o d a b : Nat) : Int := bits .or .u32 (bits .or .u32 (bits .or .u32 ((o : Int) * 16777216) ((d : Int) * 1048576)) ((a : Int) * 65536)) ((b : Int) * 4096)
def encW (n : Int) (o d a b : Nat) (i : Int) : Int := if n = 0 then headW o d a b else if n = 16 then bits .or .u32 (headW o d a b) (bits .and .u32 (i % 4294967296) 65535) else bits .or .u32 (headW o d a b) (bits .and .u32 (i % 4294967296) 16777215)
theorem encW_0 (o d a b : Nat) (i : Int) : encW 0 o d a b i = headW o d a b := by unfold encW; rw [if_pos rfl]
theorem encW_16 (o d a b : Nat) (i : Int) : encW 16 o d a b i = bits .or .u32 (headW o d a b) (bits .and .u32 (i % 4294967296) 65535) := by unfold encW; rw [if_neg (by decide), if_pos rfl]
theorem encW_24 (o d a b : Nat) (i : Int) : encW 24 o d a b i = bits .or .u32 (headW o d a b) (bits .and .u32 (i % 4294967296) 16777215) := by unfold encW; rw [if_neg (by decide), if_neg (by decide)]
theorem ret_enc {z z' : Int} (h : z = z') : Ending.returned (.tuple #[.int .u32 z, .int .i64 0]) = .returned (.tuple #[.int .u32 z', .int .i64 0]) := by rw [h]
set_option maxRecDepth 100000 in
set_option maxHeartbeats 4000000 in
theorem encode_bad (op d a b i : Int) (w : World) (h : chkA op d a b i = false) : Calls Tryz.prog 35 #[.agg #[.int .i64 op, .int .i64 d, .int .i64 a, .int .i64 b, .int .i64 i]] w fun e w' => e = .returned (.tuple #[.int .u32 0, .int .i64 20]) ∧ Below w.heap.size w w' := by
  have HC := Lib.hid (fun W => check_any op d a b i W)
  rw [h] at HC
  clear h
  go_enter Tryz.func35, Tryz.ntmps35
  go_wp2_with fail
  refine (HC.out _).mono ?_
  rintro e w1 ⟨rfl, hw⟩
  have HB1 := Lib.hid (((Below.refl _ _).alloc (Nat.le_refl _) (.cells #[.int .i64 op, .int .i64 d, .int .i64 a, .int .i64 b, .int .i64 i] 94) : Below w.heap.size w _).trans (hw.mono (by simp)))
  clear hw
  go_wp2_with fail
  go_ret2
  exact ⟨rfl, HB1.out⟩
set_option maxRecDepth 100000 in
set_option maxHeartbeats 4000000 in
theorem encode_ok (o d a b : Nat) (i : Int) (w : World) (h : chkA o d a b i = true) (ho : o ≤ 42) (hd : d ≤ 15) (ha : a ≤ 15) (hb : b ≤ 15) : Calls Tryz.prog 35 #[.agg #[.int .i64 o, .int .i64 d, .int .i64 a, .int .i64 b, .int .i64 i]] w fun e w' => e = .returned (.tuple #[.int .u32 (encW (FM o).2.2.2.1 o d a b i), .int .i64 0]) ∧ Below w.heap.size w w' := by
  have HC := Lib.hid (fun W => check_any o d a b i W)
  rw [h] at HC
  have hF := fun W => formOf_any o W
  have hbt := FM_bits o
  unfold FMv at hF
  obtain ⟨⟨fs, lo, hi, bt, ok⟩, hfm⟩ : ∃ q, FM o = q := ⟨_, rfl⟩
  rw [hfm] at hF hbt ⊢
  unfold formV at hF
  dsimp only at hF hbt ⊢
  obtain ⟨z, hz⟩ : ∃ z, encW bt o d a b i = z := ⟨_, rfl⟩
  rw [hz]
  have HZ := Lib.hid hz
  have HF := Lib.hid hF
  clear hF hfm h hz
  rcases hbt with rfl | rfl | rfl
  · as_aux_lemma =>
    go_enter Tryz.func35, Tryz.ntmps35
    go_wp2_with fail
    refine (HC.out _).mono ?_
    rintro e w1 ⟨rfl, hw⟩
    have HX1 := Lib.hid ((XAt.fresh w o d a b i 94).below hw)
    have HB1 := Lib.hid (((Below.refl _ _).alloc (Nat.le_refl _) (.cells #[.int .i64 o, .int .i64 d, .int .i64 a, .int .i64 b, .int .i64 i] 94) : Below w.heap.size w _).trans (hw.mono (by simp)))
    clear hw
    obtain ⟨x0, x1, x2, x3, x4, _⟩ := HX1.out
    go_wp2_with fail
    refine (HF.out _).mono ?_
    rintro e w2 ⟨rfl, hw⟩
    have HX2 := Lib.hid ((HX1.out.below hw).below ((Below.refl _ _).alloc (Nat.le_refl _) (.cells #[.string fs, .int .i64 lo, .int .i64 hi, .int .i64 0] 115)))
    have HF2 := Lib.hid (FAt.fresh w2 fs lo hi 0 115)
    have HB2 := Lib.hid ((HB1.out.trans (hw.mono HB1.out.size)).alloc (HB1.out.trans (hw.mono HB1.out.size)).size (.cells #[.string fs, .int .i64 lo, .int .i64 hi, .int .i64 0] 115))
    clear hw x0 x1 x2 x3 x4
    obtain ⟨x0, x1, x2, x3, x4, _⟩ := HX2.out
    obtain ⟨f0, f1, f2, f3, _⟩ := HF2.out
    go_wp2_with fail
    go_ret2
    exact ⟨ret_enc (by rw [← HZ.out, encW_0]; unfold headW; rfl), HB2.out⟩
  · as_aux_lemma =>
    go_enter Tryz.func35, Tryz.ntmps35
    go_wp2_with fail
    refine (HC.out _).mono ?_
    rintro e w1 ⟨rfl, hw⟩
    have HX1 := Lib.hid ((XAt.fresh w o d a b i 94).below hw)
    have HB1 := Lib.hid (((Below.refl _ _).alloc (Nat.le_refl _) (.cells #[.int .i64 o, .int .i64 d, .int .i64 a, .int .i64 b, .int .i64 i] 94) : Below w.heap.size w _).trans (hw.mono (by simp)))
    clear hw
    obtain ⟨x0, x1, x2, x3, x4, _⟩ := HX1.out
    go_wp2_with fail
    refine (HF.out _).mono ?_
    rintro e w2 ⟨rfl, hw⟩
    have HX2 := Lib.hid ((HX1.out.below hw).below ((Below.refl _ _).alloc (Nat.le_refl _) (.cells #[.string fs, .int .i64 lo, .int .i64 hi, .int .i64 16] 115)))
    have HF2 := Lib.hid (FAt.fresh w2 fs lo hi 16 115)
    have HB2 := Lib.hid ((HB1.out.trans (hw.mono HB1.out.size)).alloc (HB1.out.trans (hw.mono HB1.out.size)).size (.cells #[.string fs, .int .i64 lo, .int .i64 hi, .int .i64 16] 115))
    clear hw x0 x1 x2 x3 x4
    obtain ⟨x0, x1, x2, x3, x4, _⟩ := HX2.out
    obtain ⟨f0, f1, f2, f3, _⟩ := HF2.out
    go_wp2_with fail
    go_region
    go_wp2_with fail
    go_ret2
    exact ⟨ret_enc (by rw [← HZ.out, encW_16]; unfold headW; rfl), HB2.out.drew⟩
  · as_aux_lemma =>
    go_enter Tryz.func35, Tryz.ntmps35
    go_wp2_with fail
    refine (HC.out _).mono ?_
    rintro e w1 ⟨rfl, hw⟩
    have HX1 := Lib.hid ((XAt.fresh w o d a b i 94).below hw)
    have HB1 := Lib.hid (((Below.refl _ _).alloc (Nat.le_refl _) (.cells #[.int .i64 o, .int .i64 d, .int .i64 a, .int .i64 b, .int .i64 i] 94) : Below w.heap.size w _).trans (hw.mono (by simp)))
    clear hw
    obtain ⟨x0, x1, x2, x3, x4, _⟩ := HX1.out
    go_wp2_with fail
    refine (HF.out _).mono ?_
    rintro e w2 ⟨rfl, hw⟩
    have HX2 := Lib.hid ((HX1.out.below hw).below ((Below.refl _ _).alloc (Nat.le_refl _) (.cells #[.string fs, .int .i64 lo, .int .i64 hi, .int .i64 24] 115)))
    have HF2 := Lib.hid (FAt.fresh w2 fs lo hi 24 115)
    have HB2 := Lib.hid ((HB1.out.trans (hw.mono HB1.out.size)).alloc (HB1.out.trans (hw.mono HB1.out.size)).size (.cells #[.string fs, .int .i64 lo, .int .i64 hi, .int .i64 24] 115))
    clear hw x0 x1 x2 x3 x4
    obtain ⟨x0, x1, x2, x3, x4, _⟩ := HX2.out
    obtain ⟨f0, f1, f2, f3, _⟩ := HF2.out
    go_wp2_with fail
    go_region
    go_wp2_with fail
    go_ret2
    exact ⟨ret_enc (by rw [← HZ.out, encW_24]; unfold headW; rfl), HB2.out.drew⟩
open Go.RowKit
/-- An instruction lies in a block that may be written. -/
structure IAt (W : World) (p : Nat) (op d a b i : Int) : Prop where
  x : XAt W p op d a b i
  fz : ∀ j, W.frozen? ⟨p, j, none⟩ = false
theorem IAt.below {W W' : World} {p : Nat} {op d a b i : Int} (h : IAt W p op d a b i) (hb : Below W.heap.size W W') : IAt W' p op d a b i :=
  ⟨h.x.below hb, fun j => (hb.frozen (p := ⟨p, j, none⟩) h.x.lt).trans (h.fz j)⟩
theorem ne_off {p j k : Nat} (h : j ≠ k) : (⟨p, j, none⟩ : Addr) ≠ ⟨p, k, none⟩ := by simp [h]
theorem ne_blk {p q j k : Nat} (h : p ≠ q) : (⟨p, j, none⟩ : Addr) ≠ ⟨q, k, none⟩ := by simp [h]
theorem IAt.off {W : World} {p q j : Nat} {op d a b i : Int} (h : IAt W p op d a b i) (hq : q ≠ p) (v : Value) : IAt (W.setCell ⟨q, j, none⟩ v) p op d a b i :=
  ⟨⟨by rw [World.cell?_setCell_other (h := ne_blk hq)]; exact h.x.c0, by rw [World.cell?_setCell_other (h := ne_blk hq)]; exact h.x.c1, by rw [World.cell?_setCell_other (h := ne_blk hq)]; exact h.x.c2, by rw [World.cell?_setCell_other (h := ne_blk hq)]; exact h.x.c3, by rw [World.cell?_setCell_other (h := ne_blk hq)]; exact h.x.c4, by simpa using h.x.lt⟩, fun k => by rw [World.frozen?_setCell]; exact h.fz k⟩
theorem FAt.off {W : World} {p q j : Nat} {fs : ByteArray} {lo hi bt : Int} (h : FAt W q fs lo hi bt) (hq : p ≠ q) (v : Value) : FAt (W.setCell ⟨p, j, none⟩ v) q fs lo hi bt :=
  ⟨by rw [World.cell?_setCell_other (h := ne_blk hq)]; exact h.c0, by rw [World.cell?_setCell_other (h := ne_blk hq)]; exact h.c1, by rw [World.cell?_setCell_other (h := ne_blk hq)]; exact h.c2, by rw [World.cell?_setCell_other (h := ne_blk hq)]; exact h.c3, by simpa using h.lt⟩
theorem IAt.set1 {W : World} {p : Nat} {op d a b i : Int} (h : IAt W p op d a b i) (y : Int) : IAt (W.setCell ⟨p, 1, none⟩ (.int .i64 y)) p op y a b i :=
  ⟨⟨by rw [World.cell?_setCell_other (h := ne_off (by decide))]; exact h.x.c0, World.cell?_setCell_same _ _ _ h.x.c1, by rw [World.cell?_setCell_other (h := ne_off (by decide))]; exact h.x.c2, by rw [World.cell?_setCell_other (h := ne_off (by decide))]; exact h.x.c3, by rw [World.cell?_setCell_other (h := ne_off (by decide))]; exact h.x.c4, by simpa using h.x.lt⟩, fun k => by rw [World.frozen?_setCell]; exact h.fz k⟩
theorem IAt.set2 {W : World} {p : Nat} {op d a b i : Int} (h : IAt W p op d a b i) (y : Int) : IAt (W.setCell ⟨p, 2, none⟩ (.int .i64 y)) p op d y b i :=
  ⟨⟨by rw [World.cell?_setCell_other (h := ne_off (by decide))]; exact h.x.c0, by rw [World.cell?_setCell_other (h := ne_off (by decide))]; exact h.x.c1, World.cell?_setCell_same _ _ _ h.x.c2, by rw [World.cell?_setCell_other (h := ne_off (by decide))]; exact h.x.c3, by rw [World.cell?_setCell_other (h := ne_off (by decide))]; exact h.x.c4, by simpa using h.x.lt⟩, fun k => by rw [World.frozen?_setCell]; exact h.fz k⟩
theorem IAt.set3 {W : World} {p : Nat} {op d a b i : Int} (h : IAt W p op d a b i) (y : Int) : IAt (W.setCell ⟨p, 3, none⟩ (.int .i64 y)) p op d a y i :=
  ⟨⟨by rw [World.cell?_setCell_other (h := ne_off (by decide))]; exact h.x.c0, by rw [World.cell?_setCell_other (h := ne_off (by decide))]; exact h.x.c1, by rw [World.cell?_setCell_other (h := ne_off (by decide))]; exact h.x.c2, World.cell?_setCell_same _ _ _ h.x.c3, by rw [World.cell?_setCell_other (h := ne_off (by decide))]; exact h.x.c4, by simpa using h.x.lt⟩, fun k => by rw [World.frozen?_setCell]; exact h.fz k⟩
theorem IAt.set4 {W : World} {p : Nat} {op d a b i : Int} (h : IAt W p op d a b i) (y : Int) : IAt (W.setCell ⟨p, 4, none⟩ (.int .i64 y)) p op d a b y :=
  ⟨⟨by rw [World.cell?_setCell_other (h := ne_off (by decide))]; exact h.x.c0, by rw [World.cell?_setCell_other (h := ne_off (by decide))]; exact h.x.c1, by rw [World.cell?_setCell_other (h := ne_off (by decide))]; exact h.x.c2, by rw [World.cell?_setCell_other (h := ne_off (by decide))]; exact h.x.c3, World.cell?_setCell_same _ _ _ h.x.c4, by simpa using h.x.lt⟩, fun k => by rw [World.frozen?_setCell]; exact h.fz k⟩
theorem IAt.fresh (w : World) (op d a b i : Int) (t : Nat) : IAt (w.alloc (.cells #[.int .i64 op, .int .i64 d, .int .i64 a, .int .i64 b, .int .i64 i] t)) w.heap.size op d a b i :=
  ⟨XAt.fresh w op d a b i t, fun j => by simp⟩
theorem IAt.past {w : World} {p : Nat} {op d a b i : Int} (h : IAt w p op d a b i) (o : Obj) : IAt (w.alloc o) p op d a b i := h.below ((Below.refl _ _).alloc (Nat.le_refl _) o)
theorem FAt.past {w : World} {q : Nat} {fs : ByteArray} {lo hi bt : Int} (h : FAt w q fs lo hi bt) (o : Obj) : FAt (w.alloc o) q fs lo hi bt := h.below ((Below.refl _ _).alloc (Nat.le_refl _) o)
open Go.RowKit
/-- The number of so many low bits. -/
def sg16 (v : Nat) : Int := if v % 65536 < 32768 then ((v % 65536 : Nat) : Int) else ((v % 65536 : Nat) : Int) - 65536
def sg24 (v : Nat) : Int := if v % 16777216 < 8388608 then ((v % 16777216 : Nat) : Int) else ((v % 16777216 : Nat) : Int) - 16777216
theorem sg16_le (v : Nat) : -32768 ≤ sg16 v ∧ sg16 v ≤ 32767 := by unfold sg16; split <;> omega
theorem sg24_le (v : Nat) : -8388608 ≤ sg24 v ∧ sg24 v ≤ 8388607 := by unfold sg24; split <;> omega
theorem ret_ext {z z' : Int} (h : z = z') : Ending.returned (.tuple #[.int .u32 z, .int .i64 0]) = .returned (.tuple #[.int .u32 z', .int .i64 0]) := by rw [h]
theorem ext16_any (v : Nat) (w : World) (hv : v < 4294967296) : Calls Tryz.prog 54 #[.int .u32 v, .int .i64 16] w fun e w' => e = .returned (.tuple #[.int .u32 (sg16 v % 4294967296), .int .i64 0]) ∧ w = w' := by
  go_enter Tryz.func54, Tryz.ntmps54
  go_wp2
  go_ret2
  exact ⟨ret_ext (by unfold sg16 wrap32; split <;> omega), rfl⟩
theorem ext24_any (v : Nat) (w : World) (hv : v < 4294967296) : Calls Tryz.prog 54 #[.int .u32 v, .int .i64 24] w fun e w' => e = .returned (.tuple #[.int .u32 (sg24 v % 4294967296), .int .i64 0]) ∧ w = w' := by
  go_enter Tryz.func54, Tryz.ntmps54
  go_wp2
  go_ret2
  exact ⟨ret_ext (by unfold sg24 wrap32; split <;> omega), rfl⟩
theorem ret_i64 {z z' : Int} (h : z = z') : Ending.returned (.int .i64 z) = .returned (.int .i64 z') := by rw [h]
theorem signed_word (z : Int) (w : World) (h1 : -2147483648 ≤ z) (h2 : z ≤ 2147483647) : Calls Tryz.prog 55 #[.int .u32 (z % 4294967296)] w fun e w' => e = .returned (.int .i64 z) ∧ w = w' := by
  go_enter Tryz.func55, Tryz.ntmps55
  go_wp2
  go_ret
  exact ⟨ret_i64 (by unfold wrap64 wrap32; omega), rfl⟩
end Go.Proofs.YteoglkofeogknaaGreatDoor
