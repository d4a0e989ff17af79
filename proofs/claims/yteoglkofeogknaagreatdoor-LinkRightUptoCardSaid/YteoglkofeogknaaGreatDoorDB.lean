/- Walks: isa's form.has, register, Check. Conditions: none. -/
import Derived.Test.YteoglkofeogknaaGreatDoorDA
set_option linter.unusedVariables false
set_option linter.unusedSimpArgs false
namespace Go.Proofs.YteoglkofeogknaaGreatDoor
open Go.RowKit
def hasB (fs : ByteArray) (c : Int) : Bool := decide (0 ≤ Lib.indexByte fs.data.toList c.toNat.toUInt8)
theorem has_any (fs : ByteArray) (lo hi bits c : Int) (w : World) : Calls Tryz.prog 53 #[.agg #[.string fs, .int .i64 lo, .int .i64 hi, .int .i64 bits], .int .u8 c] w fun e w' => e = .returned (.bool (hasB fs c)) ∧ Below w.heap.size w w' := by
  obtain ⟨b, hb⟩ : ∃ b, hasB fs c = b := ⟨_, rfl⟩
  obtain ⟨q, hq⟩ : ∃ q, Lib.indexByte fs.data.toList c.toNat.toUInt8 = q := ⟨_, rfl⟩
  have hx : ∀ W, Calls Tryz.prog 78 #[.string fs, .int .u8 c] W fun e w' => e = .returned (.int .i64 q) ∧ w' = W := fun W => hq ▸ Tryz.strings_IndexByte fs c W
  have hbq : Hid (decide (0 ≤ q) = b) := by rw [← hb, ← hq]; rfl
  have HX := Lib.hid hx
  rw [hb]
  clear hx hb hq
  go_enter Tryz.func53, Tryz.ntmps53
  go_wp2_with fail
  refine (HX.out _).mono ?_
  rintro e w' ⟨rfl, rfl⟩
  go_wp2_with fail
  go_ret
  exact ⟨ret_bool hbq.out, (Below.refl _ _).alloc (Nat.le_refl _) _⟩
/-- May a number stand in a register's field? -/
def regOk (h : Bool) (n : Int) : Bool := if h then decide (0 ≤ n) && decide (n ≤ 15) else decide (n = 0)
theorem register_any (fs : ByteArray) (lo hi bits c n : Int) (w : World) : Calls Tryz.prog 79 #[.agg #[.string fs, .int .i64 lo, .int .i64 hi, .int .i64 bits], .int .u8 c, .int .i64 n] w fun e w' => e = .returned (.bool (regOk (hasB fs c) n)) ∧ Below w.heap.size w w' := by
  obtain ⟨b, hb⟩ : ∃ b, hasB fs c = b := ⟨_, rfl⟩
  have hx : ∀ W, Calls Tryz.prog 53 #[.agg #[.string fs, .int .i64 lo, .int .i64 hi, .int .i64 bits], .int .u8 c] W fun e w' => e = .returned (.bool b) ∧ Below W.heap.size W w' := fun W => hb ▸ has_any fs lo hi bits c W
  have HX := Lib.hid hx
  rw [hb]
  clear hx hb
  have H0 : Hid (∀ o, Below w.heap.size w (w.alloc o)) := fun o => (Below.refl _ _).alloc (Nat.le_refl _) o
  cases b with
  | false =>
    go_enter Tryz.func79, Tryz.ntmps79
    go_wp2_with fail
    refine (HX.out _).mono ?_
    rintro e w' ⟨rfl, hw⟩
    have HW := Lib.hid ((H0.out _).trans (hw.mono (H0.out _).size))
    clear hw
    go_wp2_with fail
    go_ret
    exact ⟨ret_bool (by simp [regOk]; rw [Bool.eq_iff_iff]; simp), HW.out⟩
  | true =>
    by_cases h0 : 0 ≤ n
    · go_enter Tryz.func79, Tryz.ntmps79
      go_wp2_with fail
      refine (HX.out _).mono ?_
      rintro e w' ⟨rfl, hw⟩
      have HW := Lib.hid ((H0.out _).trans (hw.mono (H0.out _).size))
      clear hw
      go_wp2_with fail
      go_ret
      exact ⟨ret_bool (by simp [regOk, h0]), HW.out⟩
    · go_enter Tryz.func79, Tryz.ntmps79
      go_wp2_with fail
      refine (HX.out _).mono ?_
      rintro e w' ⟨rfl, hw⟩
      have HW := Lib.hid ((H0.out _).trans (hw.mono (H0.out _).size))
      clear hw
      go_wp2_with fail
      go_ret
      exact ⟨ret_bool (by simp [regOk, h0]; try omega), HW.out⟩
open Go.RowKit
/-- An instruction lies in a block. -/
structure XAt (W : World) (p : Nat) (op d a b i : Int) : Prop where
  c0 : W.cell? ⟨p, 0, none⟩ = some (.int .i64 op)
  c1 : W.cell? ⟨p, 1, none⟩ = some (.int .i64 d)
  c2 : W.cell? ⟨p, 2, none⟩ = some (.int .i64 a)
  c3 : W.cell? ⟨p, 3, none⟩ = some (.int .i64 b)
  c4 : W.cell? ⟨p, 4, none⟩ = some (.int .i64 i)
  lt : p < W.heap.size
theorem XAt.below {W W' : World} {p : Nat} {op d a b i : Int} (h : XAt W p op d a b i) (hb : Below W.heap.size W W') : XAt W' p op d a b i :=
  ⟨(hb.cell (p := ⟨p, 0, none⟩) h.lt).trans h.c0, (hb.cell (p := ⟨p, 1, none⟩) h.lt).trans h.c1, (hb.cell (p := ⟨p, 2, none⟩) h.lt).trans h.c2, (hb.cell (p := ⟨p, 3, none⟩) h.lt).trans h.c3, (hb.cell (p := ⟨p, 4, none⟩) h.lt).trans h.c4, Nat.lt_of_lt_of_le h.lt hb.size⟩
theorem XAt.fresh (w : World) (op d a b i : Int) (t : Nat) : XAt (w.alloc (.cells #[.int .i64 op, .int .i64 d, .int .i64 a, .int .i64 b, .int .i64 i] t)) w.heap.size op d a b i := by
  refine ⟨?_, ?_, ?_, ?_, ?_, by simp⟩ <;> rw [World.cell?_alloc_at _ _ _ _ rfl] <;> rfl
/-- A form lies in a block. -/
structure FAt (W : World) (q : Nat) (fs : ByteArray) (lo hi bits : Int) : Prop where
  c0 : W.cell? ⟨q, 0, none⟩ = some (.string fs)
  c1 : W.cell? ⟨q, 1, none⟩ = some (.int .i64 lo)
  c2 : W.cell? ⟨q, 2, none⟩ = some (.int .i64 hi)
  c3 : W.cell? ⟨q, 3, none⟩ = some (.int .i64 bits)
  lt : q < W.heap.size
theorem FAt.below {W W' : World} {q : Nat} {fs : ByteArray} {lo hi bits : Int} (h : FAt W q fs lo hi bits) (hb : Below W.heap.size W W') : FAt W' q fs lo hi bits :=
  ⟨(hb.cell (p := ⟨q, 0, none⟩) h.lt).trans h.c0, (hb.cell (p := ⟨q, 1, none⟩) h.lt).trans h.c1, (hb.cell (p := ⟨q, 2, none⟩) h.lt).trans h.c2, (hb.cell (p := ⟨q, 3, none⟩) h.lt).trans h.c3, Nat.lt_of_lt_of_le h.lt hb.size⟩
theorem FAt.fresh (w : World) (fs : ByteArray) (lo hi bits : Int) (t : Nat) : FAt (w.alloc (.cells #[.string fs, .int .i64 lo, .int .i64 hi, .int .i64 bits] t)) w.heap.size fs lo hi bits := by
  refine ⟨?_, ?_, ?_, ?_, by simp⟩ <;> rw [World.cell?_alloc_at _ _ _ _ rfl] <;> rfl
/-- What Check comes to, off the form's parts. -/
def chkQ (ok rD rA rB hI : Bool) (lo hi op i : Int) : Bool :=
  ok && rD && rA && rB && (if hI then decide (lo ≤ i ∧ i ≤ hi) else decide (i = 0)) && (decide (op ≠ 27) || decide (i = 8) || decide (i = 16))
def chkA (op d a b i : Int) : Bool :=
  chkQ (FM op).2.2.2.2 (regOk (hasB (FM op).1 68) d) (regOk (hasB (FM op).1 65) a) (regOk (hasB (FM op).1 66) b) (hasB (FM op).1 73) (FM op).2.1 (FM op).2.2.1 op i
theorem ret_chk {c R : Bool} {n z : Int} (hz : (if c then 0 else 20) = z) (h : c = R) (hn : (if R then 0 else 20) = n) : Ending.returned (.int .i64 n) = .returned (.int .i64 z) := by rw [← hz, h, hn]
open Go.RowKit
set_option maxRecDepth 100000 in
set_option maxHeartbeats 4000000 in
theorem check_any (op d a b i : Int) (w : World) : Calls Tryz.prog 56 #[.agg #[.int .i64 op, .int .i64 d, .int .i64 a, .int .i64 b, .int .i64 i]] w fun e w' => e = .returned (.int .i64 (if chkA op d a b i then 0 else 20)) ∧ Below w.heap.size w w' := by
  have hF := fun W => formOf_any op W
  unfold FMv at hF
  unfold chkA
  obtain ⟨⟨fs, lo, hi, bits, ok⟩, hfm⟩ : ∃ q, FM op = q := ⟨_, rfl⟩
  rw [hfm] at hF ⊢
  unfold formV at hF
  dsimp only at hF ⊢
  obtain ⟨rD, hrD⟩ : ∃ q, regOk (hasB fs 68) d = q := ⟨_, rfl⟩
  obtain ⟨rA, hrA⟩ : ∃ q, regOk (hasB fs 65) a = q := ⟨_, rfl⟩
  obtain ⟨rB, hrB⟩ : ∃ q, regOk (hasB fs 66) b = q := ⟨_, rfl⟩
  obtain ⟨hI, hhI⟩ : ∃ q, hasB fs 73 = q := ⟨_, rfl⟩
  have HD := Lib.hid (fun W => register_any fs lo hi bits 68 d W)
  have HA := Lib.hid (fun W => register_any fs lo hi bits 65 a W)
  have HB := Lib.hid (fun W => register_any fs lo hi bits 66 b W)
  have HI := Lib.hid (fun W => has_any fs lo hi bits 73 W)
  rw [hrD] at HD ⊢
  rw [hrA] at HA ⊢
  rw [hrB] at HB ⊢
  rw [hhI] at HI ⊢
  have HF := Lib.hid hF
  clear hF hfm hrD hrA hrB hhI
  obtain ⟨z, hz⟩ : ∃ z : Int, (if chkQ ok rD rA rB hI lo hi op i then 0 else 20) = z := ⟨_, rfl⟩
  rw [hz]
  have HZ := Lib.hid hz
  clear hz
  cases ok with
  | false =>
    go_enter Tryz.func56, Tryz.ntmps56
    go_wp2_with fail
    refine (HF.out _).mono ?_
    rintro e w1 ⟨rfl, hb⟩
    have HX1 := Lib.hid (((XAt.fresh w op d a b i 94).below hb).below ((Below.refl _ _).alloc (Nat.le_refl _) (.cells #[.string fs, .int .i64 lo, .int .i64 hi, .int .i64 bits] 115)))
    have HF1 := Lib.hid (FAt.fresh w1 fs lo hi bits 115)
    have HB1 := Lib.hid (((((Below.refl _ _).alloc (Nat.le_refl _) (.cells #[.int .i64 op, .int .i64 d, .int .i64 a, .int .i64 b, .int .i64 i] 94) : Below w.heap.size w _).trans (hb.mono (by simp))).alloc (Below.size ((((Below.refl _ _).alloc (Nat.le_refl _) (.cells #[.int .i64 op, .int .i64 d, .int .i64 a, .int .i64 b, .int .i64 i] 94) : Below w.heap.size w _).trans (hb.mono (by simp))))) (.cells #[.string fs, .int .i64 lo, .int .i64 hi, .int .i64 bits] 115)))
    clear hb
    obtain ⟨x0, x1, x2, x3, x4, _⟩ := HX1.out
    obtain ⟨f0, f1, f2, f3, _⟩ := HF1.out
    go_wp2_with fail
    go_ret
    exact ⟨ret_chk (n := 20) HZ.out (R := false) (by simp [chkQ]; try omega) (by decide), HB1.out⟩
  | true =>
    cases rD with
    | false =>
      go_enter Tryz.func56, Tryz.ntmps56
      go_wp2_with fail
      refine (HF.out _).mono ?_
      rintro e w1 ⟨rfl, hb⟩
      have HX1 := Lib.hid (((XAt.fresh w op d a b i 94).below hb).below ((Below.refl _ _).alloc (Nat.le_refl _) (.cells #[.string fs, .int .i64 lo, .int .i64 hi, .int .i64 bits] 115)))
      have HF1 := Lib.hid (FAt.fresh w1 fs lo hi bits 115)
      have HB1 := Lib.hid (((((Below.refl _ _).alloc (Nat.le_refl _) (.cells #[.int .i64 op, .int .i64 d, .int .i64 a, .int .i64 b, .int .i64 i] 94) : Below w.heap.size w _).trans (hb.mono (by simp))).alloc (Below.size ((((Below.refl _ _).alloc (Nat.le_refl _) (.cells #[.int .i64 op, .int .i64 d, .int .i64 a, .int .i64 b, .int .i64 i] 94) : Below w.heap.size w _).trans (hb.mono (by simp))))) (.cells #[.string fs, .int .i64 lo, .int .i64 hi, .int .i64 bits] 115)))
      clear hb
      obtain ⟨x0, x1, x2, x3, x4, _⟩ := HX1.out
      obtain ⟨f0, f1, f2, f3, _⟩ := HF1.out
      go_wp2_with fail
      refine (HD.out _).mono ?_
      rintro e w2 ⟨rfl, hb⟩
      have HX2 := Lib.hid (HX1.out.below hb)
      have HF2 := Lib.hid (HF1.out.below hb)
      have HB2 := Lib.hid (HB1.out.trans (hb.mono HB1.out.size))
      clear hb
      obtain ⟨x0, x1, x2, x3, x4, _⟩ := HX2.out
      obtain ⟨f0, f1, f2, f3, _⟩ := HF2.out
      go_wp2_with fail
      go_ret
      exact ⟨ret_chk (n := 20) HZ.out (R := false) (by simp [chkQ]; try omega) (by decide), HB2.out⟩
    | true =>
      cases rA with
      | false =>
        go_enter Tryz.func56, Tryz.ntmps56
        go_wp2_with fail
        refine (HF.out _).mono ?_
        rintro e w1 ⟨rfl, hb⟩
        have HX1 := Lib.hid (((XAt.fresh w op d a b i 94).below hb).below ((Below.refl _ _).alloc (Nat.le_refl _) (.cells #[.string fs, .int .i64 lo, .int .i64 hi, .int .i64 bits] 115)))
        have HF1 := Lib.hid (FAt.fresh w1 fs lo hi bits 115)
        have HB1 := Lib.hid (((((Below.refl _ _).alloc (Nat.le_refl _) (.cells #[.int .i64 op, .int .i64 d, .int .i64 a, .int .i64 b, .int .i64 i] 94) : Below w.heap.size w _).trans (hb.mono (by simp))).alloc (Below.size ((((Below.refl _ _).alloc (Nat.le_refl _) (.cells #[.int .i64 op, .int .i64 d, .int .i64 a, .int .i64 b, .int .i64 i] 94) : Below w.heap.size w _).trans (hb.mono (by simp))))) (.cells #[.string fs, .int .i64 lo, .int .i64 hi, .int .i64 bits] 115)))
        clear hb
        obtain ⟨x0, x1, x2, x3, x4, _⟩ := HX1.out
        obtain ⟨f0, f1, f2, f3, _⟩ := HF1.out
        go_wp2_with fail
        refine (HD.out _).mono ?_
        rintro e w2 ⟨rfl, hb⟩
        have HX2 := Lib.hid (HX1.out.below hb)
        have HF2 := Lib.hid (HF1.out.below hb)
        have HB2 := Lib.hid (HB1.out.trans (hb.mono HB1.out.size))
        clear hb
        obtain ⟨x0, x1, x2, x3, x4, _⟩ := HX2.out
        obtain ⟨f0, f1, f2, f3, _⟩ := HF2.out
        go_wp2_with fail
        refine (HA.out _).mono ?_
        rintro e w3 ⟨rfl, hb⟩
        have HX3 := Lib.hid (HX2.out.below hb)
        have HF3 := Lib.hid (HF2.out.below hb)
        have HB3 := Lib.hid (HB2.out.trans (hb.mono HB2.out.size))
        clear hb
        obtain ⟨x0, x1, x2, x3, x4, _⟩ := HX3.out
        obtain ⟨f0, f1, f2, f3, _⟩ := HF3.out
        go_wp2_with fail
        go_ret
        exact ⟨ret_chk (n := 20) HZ.out (R := false) (by simp [chkQ]; try omega) (by decide), HB3.out⟩
      | true =>
        cases rB with
        | false =>
          go_enter Tryz.func56, Tryz.ntmps56
          go_wp2_with fail
          refine (HF.out _).mono ?_
          rintro e w1 ⟨rfl, hb⟩
          have HX1 := Lib.hid (((XAt.fresh w op d a b i 94).below hb).below ((Below.refl _ _).alloc (Nat.le_refl _) (.cells #[.string fs, .int .i64 lo, .int .i64 hi, .int .i64 bits] 115)))
          have HF1 := Lib.hid (FAt.fresh w1 fs lo hi bits 115)
          have HB1 := Lib.hid (((((Below.refl _ _).alloc (Nat.le_refl _) (.cells #[.int .i64 op, .int .i64 d, .int .i64 a, .int .i64 b, .int .i64 i] 94) : Below w.heap.size w _).trans (hb.mono (by simp))).alloc (Below.size ((((Below.refl _ _).alloc (Nat.le_refl _) (.cells #[.int .i64 op, .int .i64 d, .int .i64 a, .int .i64 b, .int .i64 i] 94) : Below w.heap.size w _).trans (hb.mono (by simp))))) (.cells #[.string fs, .int .i64 lo, .int .i64 hi, .int .i64 bits] 115)))
          clear hb
          obtain ⟨x0, x1, x2, x3, x4, _⟩ := HX1.out
          obtain ⟨f0, f1, f2, f3, _⟩ := HF1.out
          go_wp2_with fail
          refine (HD.out _).mono ?_
          rintro e w2 ⟨rfl, hb⟩
          have HX2 := Lib.hid (HX1.out.below hb)
          have HF2 := Lib.hid (HF1.out.below hb)
          have HB2 := Lib.hid (HB1.out.trans (hb.mono HB1.out.size))
          clear hb
          obtain ⟨x0, x1, x2, x3, x4, _⟩ := HX2.out
          obtain ⟨f0, f1, f2, f3, _⟩ := HF2.out
          go_wp2_with fail
          refine (HA.out _).mono ?_
          rintro e w3 ⟨rfl, hb⟩
          have HX3 := Lib.hid (HX2.out.below hb)
          have HF3 := Lib.hid (HF2.out.below hb)
          have HB3 := Lib.hid (HB2.out.trans (hb.mono HB2.out.size))
          clear hb
          obtain ⟨x0, x1, x2, x3, x4, _⟩ := HX3.out
          obtain ⟨f0, f1, f2, f3, _⟩ := HF3.out
          go_wp2_with fail
          refine (HB.out _).mono ?_
          rintro e w4 ⟨rfl, hb⟩
          have HX4 := Lib.hid (HX3.out.below hb)
          have HF4 := Lib.hid (HF3.out.below hb)
          have HB4 := Lib.hid (HB3.out.trans (hb.mono HB3.out.size))
          clear hb
          obtain ⟨x0, x1, x2, x3, x4, _⟩ := HX4.out
          obtain ⟨f0, f1, f2, f3, _⟩ := HF4.out
          go_wp2_with fail
          go_ret
          exact ⟨ret_chk (n := 20) HZ.out (R := false) (by simp [chkQ]; try omega) (by decide), HB4.out⟩
        | true =>
          cases hI with
          | false =>
            by_cases hi0 : i = 0
            · subst hi0
              by_cases h27 : op = 27
              · subst h27
                go_enter Tryz.func56, Tryz.ntmps56
                go_wp2_with fail
                refine (HF.out _).mono ?_
                rintro e w1 ⟨rfl, hb⟩
                have HX1 := Lib.hid (((XAt.fresh w 27 d a b 0 94).below hb).below ((Below.refl _ _).alloc (Nat.le_refl _) (.cells #[.string fs, .int .i64 lo, .int .i64 hi, .int .i64 bits] 115)))
                have HF1 := Lib.hid (FAt.fresh w1 fs lo hi bits 115)
                have HB1 := Lib.hid (((((Below.refl _ _).alloc (Nat.le_refl _) (.cells #[.int .i64 27, .int .i64 d, .int .i64 a, .int .i64 b, .int .i64 0] 94) : Below w.heap.size w _).trans (hb.mono (by simp))).alloc (Below.size ((((Below.refl _ _).alloc (Nat.le_refl _) (.cells #[.int .i64 27, .int .i64 d, .int .i64 a, .int .i64 b, .int .i64 0] 94) : Below w.heap.size w _).trans (hb.mono (by simp))))) (.cells #[.string fs, .int .i64 lo, .int .i64 hi, .int .i64 bits] 115)))
                clear hb
                obtain ⟨x0, x1, x2, x3, x4, _⟩ := HX1.out
                obtain ⟨f0, f1, f2, f3, _⟩ := HF1.out
                go_wp2_with fail
                refine (HD.out _).mono ?_
                rintro e w2 ⟨rfl, hb⟩
                have HX2 := Lib.hid (HX1.out.below hb)
                have HF2 := Lib.hid (HF1.out.below hb)
                have HB2 := Lib.hid (HB1.out.trans (hb.mono HB1.out.size))
                clear hb
                obtain ⟨x0, x1, x2, x3, x4, _⟩ := HX2.out
                obtain ⟨f0, f1, f2, f3, _⟩ := HF2.out
                go_wp2_with fail
                refine (HA.out _).mono ?_
                rintro e w3 ⟨rfl, hb⟩
                have HX3 := Lib.hid (HX2.out.below hb)
                have HF3 := Lib.hid (HF2.out.below hb)
                have HB3 := Lib.hid (HB2.out.trans (hb.mono HB2.out.size))
                clear hb
                obtain ⟨x0, x1, x2, x3, x4, _⟩ := HX3.out
                obtain ⟨f0, f1, f2, f3, _⟩ := HF3.out
                go_wp2_with fail
                refine (HB.out _).mono ?_
                rintro e w4 ⟨rfl, hb⟩
                have HX4 := Lib.hid (HX3.out.below hb)
                have HF4 := Lib.hid (HF3.out.below hb)
                have HB4 := Lib.hid (HB3.out.trans (hb.mono HB3.out.size))
                clear hb
                obtain ⟨x0, x1, x2, x3, x4, _⟩ := HX4.out
                obtain ⟨f0, f1, f2, f3, _⟩ := HF4.out
                go_wp2_with fail
                refine (HI.out _).mono ?_
                rintro e w5 ⟨rfl, hb⟩
                have HX5 := Lib.hid (HX4.out.below hb)
                have HF5 := Lib.hid (HF4.out.below hb)
                have HB5 := Lib.hid (HB4.out.trans (hb.mono HB4.out.size))
                clear hb
                obtain ⟨x0, x1, x2, x3, x4, _⟩ := HX5.out
                obtain ⟨f0, f1, f2, f3, _⟩ := HF5.out
                go_wp2_with fail
                refine (HI.out _).mono ?_
                rintro e w6 ⟨rfl, hb⟩
                have HX6 := Lib.hid (HX5.out.below hb)
                have HF6 := Lib.hid (HF5.out.below hb)
                have HB6 := Lib.hid (HB5.out.trans (hb.mono HB5.out.size))
                clear hb
                obtain ⟨x0, x1, x2, x3, x4, _⟩ := HX6.out
                obtain ⟨f0, f1, f2, f3, _⟩ := HF6.out
                go_wp2_with fail
                go_ret
                exact ⟨ret_chk (n := 20) HZ.out (R := false) (by simp [chkQ]; try omega) (by decide), HB6.out⟩
              · have g27 : (op == 27) = false := by simpa using h27
                have G27 := Lib.hid h27
                clear h27
                go_enter Tryz.func56, Tryz.ntmps56
                go_wp2_with fail
                refine (HF.out _).mono ?_
                rintro e w1 ⟨rfl, hb⟩
                have HX1 := Lib.hid (((XAt.fresh w op d a b 0 94).below hb).below ((Below.refl _ _).alloc (Nat.le_refl _) (.cells #[.string fs, .int .i64 lo, .int .i64 hi, .int .i64 bits] 115)))
                have HF1 := Lib.hid (FAt.fresh w1 fs lo hi bits 115)
                have HB1 := Lib.hid (((((Below.refl _ _).alloc (Nat.le_refl _) (.cells #[.int .i64 op, .int .i64 d, .int .i64 a, .int .i64 b, .int .i64 0] 94) : Below w.heap.size w _).trans (hb.mono (by simp))).alloc (Below.size ((((Below.refl _ _).alloc (Nat.le_refl _) (.cells #[.int .i64 op, .int .i64 d, .int .i64 a, .int .i64 b, .int .i64 0] 94) : Below w.heap.size w _).trans (hb.mono (by simp))))) (.cells #[.string fs, .int .i64 lo, .int .i64 hi, .int .i64 bits] 115)))
                clear hb
                obtain ⟨x0, x1, x2, x3, x4, _⟩ := HX1.out
                obtain ⟨f0, f1, f2, f3, _⟩ := HF1.out
                go_wp2_with fail
                refine (HD.out _).mono ?_
                rintro e w2 ⟨rfl, hb⟩
                have HX2 := Lib.hid (HX1.out.below hb)
                have HF2 := Lib.hid (HF1.out.below hb)
                have HB2 := Lib.hid (HB1.out.trans (hb.mono HB1.out.size))
                clear hb
                obtain ⟨x0, x1, x2, x3, x4, _⟩ := HX2.out
                obtain ⟨f0, f1, f2, f3, _⟩ := HF2.out
                go_wp2_with fail
                refine (HA.out _).mono ?_
                rintro e w3 ⟨rfl, hb⟩
                have HX3 := Lib.hid (HX2.out.below hb)
                have HF3 := Lib.hid (HF2.out.below hb)
                have HB3 := Lib.hid (HB2.out.trans (hb.mono HB2.out.size))
                clear hb
                obtain ⟨x0, x1, x2, x3, x4, _⟩ := HX3.out
                obtain ⟨f0, f1, f2, f3, _⟩ := HF3.out
                go_wp2_with fail
                refine (HB.out _).mono ?_
                rintro e w4 ⟨rfl, hb⟩
                have HX4 := Lib.hid (HX3.out.below hb)
                have HF4 := Lib.hid (HF3.out.below hb)
                have HB4 := Lib.hid (HB3.out.trans (hb.mono HB3.out.size))
                clear hb
                obtain ⟨x0, x1, x2, x3, x4, _⟩ := HX4.out
                obtain ⟨f0, f1, f2, f3, _⟩ := HF4.out
                go_wp2_with fail
                refine (HI.out _).mono ?_
                rintro e w5 ⟨rfl, hb⟩
                have HX5 := Lib.hid (HX4.out.below hb)
                have HF5 := Lib.hid (HF4.out.below hb)
                have HB5 := Lib.hid (HB4.out.trans (hb.mono HB4.out.size))
                clear hb
                obtain ⟨x0, x1, x2, x3, x4, _⟩ := HX5.out
                obtain ⟨f0, f1, f2, f3, _⟩ := HF5.out
                go_wp2_with fail
                refine (HI.out _).mono ?_
                rintro e w6 ⟨rfl, hb⟩
                have HX6 := Lib.hid (HX5.out.below hb)
                have HF6 := Lib.hid (HF5.out.below hb)
                have HB6 := Lib.hid (HB5.out.trans (hb.mono HB5.out.size))
                clear hb
                obtain ⟨x0, x1, x2, x3, x4, _⟩ := HX6.out
                obtain ⟨f0, f1, f2, f3, _⟩ := HF6.out
                go_wp2_with fail
                go_ret
                exact ⟨ret_chk (n := 0) HZ.out (R := true) (by simp [chkQ, G27.out]; try omega) (by decide), HB6.out⟩
            · have gi0 : (i != 0) = true := by simpa using hi0
              have GI := Lib.hid hi0
              clear hi0
              go_enter Tryz.func56, Tryz.ntmps56
              go_wp2_with fail
              refine (HF.out _).mono ?_
              rintro e w1 ⟨rfl, hb⟩
              have HX1 := Lib.hid (((XAt.fresh w op d a b i 94).below hb).below ((Below.refl _ _).alloc (Nat.le_refl _) (.cells #[.string fs, .int .i64 lo, .int .i64 hi, .int .i64 bits] 115)))
              have HF1 := Lib.hid (FAt.fresh w1 fs lo hi bits 115)
              have HB1 := Lib.hid (((((Below.refl _ _).alloc (Nat.le_refl _) (.cells #[.int .i64 op, .int .i64 d, .int .i64 a, .int .i64 b, .int .i64 i] 94) : Below w.heap.size w _).trans (hb.mono (by simp))).alloc (Below.size ((((Below.refl _ _).alloc (Nat.le_refl _) (.cells #[.int .i64 op, .int .i64 d, .int .i64 a, .int .i64 b, .int .i64 i] 94) : Below w.heap.size w _).trans (hb.mono (by simp))))) (.cells #[.string fs, .int .i64 lo, .int .i64 hi, .int .i64 bits] 115)))
              clear hb
              obtain ⟨x0, x1, x2, x3, x4, _⟩ := HX1.out
              obtain ⟨f0, f1, f2, f3, _⟩ := HF1.out
              go_wp2_with fail
              refine (HD.out _).mono ?_
              rintro e w2 ⟨rfl, hb⟩
              have HX2 := Lib.hid (HX1.out.below hb)
              have HF2 := Lib.hid (HF1.out.below hb)
              have HB2 := Lib.hid (HB1.out.trans (hb.mono HB1.out.size))
              clear hb
              obtain ⟨x0, x1, x2, x3, x4, _⟩ := HX2.out
              obtain ⟨f0, f1, f2, f3, _⟩ := HF2.out
              go_wp2_with fail
              refine (HA.out _).mono ?_
              rintro e w3 ⟨rfl, hb⟩
              have HX3 := Lib.hid (HX2.out.below hb)
              have HF3 := Lib.hid (HF2.out.below hb)
              have HB3 := Lib.hid (HB2.out.trans (hb.mono HB2.out.size))
              clear hb
              obtain ⟨x0, x1, x2, x3, x4, _⟩ := HX3.out
              obtain ⟨f0, f1, f2, f3, _⟩ := HF3.out
              go_wp2_with fail
              refine (HB.out _).mono ?_
              rintro e w4 ⟨rfl, hb⟩
              have HX4 := Lib.hid (HX3.out.below hb)
              have HF4 := Lib.hid (HF3.out.below hb)
              have HB4 := Lib.hid (HB3.out.trans (hb.mono HB3.out.size))
              clear hb
              obtain ⟨x0, x1, x2, x3, x4, _⟩ := HX4.out
              obtain ⟨f0, f1, f2, f3, _⟩ := HF4.out
              go_wp2_with fail
              refine (HI.out _).mono ?_
              rintro e w5 ⟨rfl, hb⟩
              have HX5 := Lib.hid (HX4.out.below hb)
              have HF5 := Lib.hid (HF4.out.below hb)
              have HB5 := Lib.hid (HB4.out.trans (hb.mono HB4.out.size))
              clear hb
              obtain ⟨x0, x1, x2, x3, x4, _⟩ := HX5.out
              obtain ⟨f0, f1, f2, f3, _⟩ := HF5.out
              go_wp2_with fail
              go_ret
              exact ⟨ret_chk (n := 20) HZ.out (R := false) (by simp [chkQ, GI.out]; try omega) (by decide), HB5.out⟩
          | true =>
            by_cases hlo : lo ≤ i
            · by_cases hhi : i ≤ hi
              · by_cases h27 : op = 27
                · subst h27
                  by_cases h8 : i = 8
                  · subst h8
                    have GL := Lib.hid hlo
                    have GH := Lib.hid hhi
                    go_enter Tryz.func56, Tryz.ntmps56
                    go_wp2_with fail
                    refine (HF.out _).mono ?_
                    rintro e w1 ⟨rfl, hb⟩
                    have HX1 := Lib.hid (((XAt.fresh w 27 d a b 8 94).below hb).below ((Below.refl _ _).alloc (Nat.le_refl _) (.cells #[.string fs, .int .i64 lo, .int .i64 hi, .int .i64 bits] 115)))
                    have HF1 := Lib.hid (FAt.fresh w1 fs lo hi bits 115)
                    have HB1 := Lib.hid (((((Below.refl _ _).alloc (Nat.le_refl _) (.cells #[.int .i64 27, .int .i64 d, .int .i64 a, .int .i64 b, .int .i64 8] 94) : Below w.heap.size w _).trans (hb.mono (by simp))).alloc (Below.size ((((Below.refl _ _).alloc (Nat.le_refl _) (.cells #[.int .i64 27, .int .i64 d, .int .i64 a, .int .i64 b, .int .i64 8] 94) : Below w.heap.size w _).trans (hb.mono (by simp))))) (.cells #[.string fs, .int .i64 lo, .int .i64 hi, .int .i64 bits] 115)))
                    clear hb
                    obtain ⟨x0, x1, x2, x3, x4, _⟩ := HX1.out
                    obtain ⟨f0, f1, f2, f3, _⟩ := HF1.out
                    go_wp2_with fail
                    refine (HD.out _).mono ?_
                    rintro e w2 ⟨rfl, hb⟩
                    have HX2 := Lib.hid (HX1.out.below hb)
                    have HF2 := Lib.hid (HF1.out.below hb)
                    have HB2 := Lib.hid (HB1.out.trans (hb.mono HB1.out.size))
                    clear hb
                    obtain ⟨x0, x1, x2, x3, x4, _⟩ := HX2.out
                    obtain ⟨f0, f1, f2, f3, _⟩ := HF2.out
                    go_wp2_with fail
                    refine (HA.out _).mono ?_
                    rintro e w3 ⟨rfl, hb⟩
                    have HX3 := Lib.hid (HX2.out.below hb)
                    have HF3 := Lib.hid (HF2.out.below hb)
                    have HB3 := Lib.hid (HB2.out.trans (hb.mono HB2.out.size))
                    clear hb
                    obtain ⟨x0, x1, x2, x3, x4, _⟩ := HX3.out
                    obtain ⟨f0, f1, f2, f3, _⟩ := HF3.out
                    go_wp2_with fail
                    refine (HB.out _).mono ?_
                    rintro e w4 ⟨rfl, hb⟩
                    have HX4 := Lib.hid (HX3.out.below hb)
                    have HF4 := Lib.hid (HF3.out.below hb)
                    have HB4 := Lib.hid (HB3.out.trans (hb.mono HB3.out.size))
                    clear hb
                    obtain ⟨x0, x1, x2, x3, x4, _⟩ := HX4.out
                    obtain ⟨f0, f1, f2, f3, _⟩ := HF4.out
                    go_wp2_with fail
                    refine (HI.out _).mono ?_
                    rintro e w5 ⟨rfl, hb⟩
                    have HX5 := Lib.hid (HX4.out.below hb)
                    have HF5 := Lib.hid (HF4.out.below hb)
                    have HB5 := Lib.hid (HB4.out.trans (hb.mono HB4.out.size))
                    clear hb
                    obtain ⟨x0, x1, x2, x3, x4, _⟩ := HX5.out
                    obtain ⟨f0, f1, f2, f3, _⟩ := HF5.out
                    go_wp2_with fail
                    refine (HI.out _).mono ?_
                    rintro e w6 ⟨rfl, hb⟩
                    have HX6 := Lib.hid (HX5.out.below hb)
                    have HF6 := Lib.hid (HF5.out.below hb)
                    have HB6 := Lib.hid (HB5.out.trans (hb.mono HB5.out.size))
                    clear hb
                    obtain ⟨x0, x1, x2, x3, x4, _⟩ := HX6.out
                    obtain ⟨f0, f1, f2, f3, _⟩ := HF6.out
                    go_wp2_with fail
                    go_ret
                    exact ⟨ret_chk (n := 0) HZ.out (R := true) (by simp [chkQ]; try omega) (by decide), HB6.out⟩
                  · by_cases h16 : i = 16
                    · subst h16
                      have GL := Lib.hid hlo
                      have GH := Lib.hid hhi
                      go_enter Tryz.func56, Tryz.ntmps56
                      go_wp2_with fail
                      refine (HF.out _).mono ?_
                      rintro e w1 ⟨rfl, hb⟩
                      have HX1 := Lib.hid (((XAt.fresh w 27 d a b 16 94).below hb).below ((Below.refl _ _).alloc (Nat.le_refl _) (.cells #[.string fs, .int .i64 lo, .int .i64 hi, .int .i64 bits] 115)))
                      have HF1 := Lib.hid (FAt.fresh w1 fs lo hi bits 115)
                      have HB1 := Lib.hid (((((Below.refl _ _).alloc (Nat.le_refl _) (.cells #[.int .i64 27, .int .i64 d, .int .i64 a, .int .i64 b, .int .i64 16] 94) : Below w.heap.size w _).trans (hb.mono (by simp))).alloc (Below.size ((((Below.refl _ _).alloc (Nat.le_refl _) (.cells #[.int .i64 27, .int .i64 d, .int .i64 a, .int .i64 b, .int .i64 16] 94) : Below w.heap.size w _).trans (hb.mono (by simp))))) (.cells #[.string fs, .int .i64 lo, .int .i64 hi, .int .i64 bits] 115)))
                      clear hb
                      obtain ⟨x0, x1, x2, x3, x4, _⟩ := HX1.out
                      obtain ⟨f0, f1, f2, f3, _⟩ := HF1.out
                      go_wp2_with fail
                      refine (HD.out _).mono ?_
                      rintro e w2 ⟨rfl, hb⟩
                      have HX2 := Lib.hid (HX1.out.below hb)
                      have HF2 := Lib.hid (HF1.out.below hb)
                      have HB2 := Lib.hid (HB1.out.trans (hb.mono HB1.out.size))
                      clear hb
                      obtain ⟨x0, x1, x2, x3, x4, _⟩ := HX2.out
                      obtain ⟨f0, f1, f2, f3, _⟩ := HF2.out
                      go_wp2_with fail
                      refine (HA.out _).mono ?_
                      rintro e w3 ⟨rfl, hb⟩
                      have HX3 := Lib.hid (HX2.out.below hb)
                      have HF3 := Lib.hid (HF2.out.below hb)
                      have HB3 := Lib.hid (HB2.out.trans (hb.mono HB2.out.size))
                      clear hb
                      obtain ⟨x0, x1, x2, x3, x4, _⟩ := HX3.out
                      obtain ⟨f0, f1, f2, f3, _⟩ := HF3.out
                      go_wp2_with fail
                      refine (HB.out _).mono ?_
                      rintro e w4 ⟨rfl, hb⟩
                      have HX4 := Lib.hid (HX3.out.below hb)
                      have HF4 := Lib.hid (HF3.out.below hb)
                      have HB4 := Lib.hid (HB3.out.trans (hb.mono HB3.out.size))
                      clear hb
                      obtain ⟨x0, x1, x2, x3, x4, _⟩ := HX4.out
                      obtain ⟨f0, f1, f2, f3, _⟩ := HF4.out
                      go_wp2_with fail
                      refine (HI.out _).mono ?_
                      rintro e w5 ⟨rfl, hb⟩
                      have HX5 := Lib.hid (HX4.out.below hb)
                      have HF5 := Lib.hid (HF4.out.below hb)
                      have HB5 := Lib.hid (HB4.out.trans (hb.mono HB4.out.size))
                      clear hb
                      obtain ⟨x0, x1, x2, x3, x4, _⟩ := HX5.out
                      obtain ⟨f0, f1, f2, f3, _⟩ := HF5.out
                      go_wp2_with fail
                      refine (HI.out _).mono ?_
                      rintro e w6 ⟨rfl, hb⟩
                      have HX6 := Lib.hid (HX5.out.below hb)
                      have HF6 := Lib.hid (HF5.out.below hb)
                      have HB6 := Lib.hid (HB5.out.trans (hb.mono HB5.out.size))
                      clear hb
                      obtain ⟨x0, x1, x2, x3, x4, _⟩ := HX6.out
                      obtain ⟨f0, f1, f2, f3, _⟩ := HF6.out
                      go_wp2_with fail
                      go_ret
                      exact ⟨ret_chk (n := 0) HZ.out (R := true) (by simp [chkQ]; try omega) (by decide), HB6.out⟩
                    · have g8 : (i != 8) = true := by simpa using h8
                      have g16 : (i != 16) = true := by simpa using h16
                      have G8 := Lib.hid h8
                      have G16 := Lib.hid h16
                      clear h8 h16
                      go_enter Tryz.func56, Tryz.ntmps56
                      go_wp2_with fail
                      refine (HF.out _).mono ?_
                      rintro e w1 ⟨rfl, hb⟩
                      have HX1 := Lib.hid (((XAt.fresh w 27 d a b i 94).below hb).below ((Below.refl _ _).alloc (Nat.le_refl _) (.cells #[.string fs, .int .i64 lo, .int .i64 hi, .int .i64 bits] 115)))
                      have HF1 := Lib.hid (FAt.fresh w1 fs lo hi bits 115)
                      have HB1 := Lib.hid (((((Below.refl _ _).alloc (Nat.le_refl _) (.cells #[.int .i64 27, .int .i64 d, .int .i64 a, .int .i64 b, .int .i64 i] 94) : Below w.heap.size w _).trans (hb.mono (by simp))).alloc (Below.size ((((Below.refl _ _).alloc (Nat.le_refl _) (.cells #[.int .i64 27, .int .i64 d, .int .i64 a, .int .i64 b, .int .i64 i] 94) : Below w.heap.size w _).trans (hb.mono (by simp))))) (.cells #[.string fs, .int .i64 lo, .int .i64 hi, .int .i64 bits] 115)))
                      clear hb
                      obtain ⟨x0, x1, x2, x3, x4, _⟩ := HX1.out
                      obtain ⟨f0, f1, f2, f3, _⟩ := HF1.out
                      go_wp2_with fail
                      refine (HD.out _).mono ?_
                      rintro e w2 ⟨rfl, hb⟩
                      have HX2 := Lib.hid (HX1.out.below hb)
                      have HF2 := Lib.hid (HF1.out.below hb)
                      have HB2 := Lib.hid (HB1.out.trans (hb.mono HB1.out.size))
                      clear hb
                      obtain ⟨x0, x1, x2, x3, x4, _⟩ := HX2.out
                      obtain ⟨f0, f1, f2, f3, _⟩ := HF2.out
                      go_wp2_with fail
                      refine (HA.out _).mono ?_
                      rintro e w3 ⟨rfl, hb⟩
                      have HX3 := Lib.hid (HX2.out.below hb)
                      have HF3 := Lib.hid (HF2.out.below hb)
                      have HB3 := Lib.hid (HB2.out.trans (hb.mono HB2.out.size))
                      clear hb
                      obtain ⟨x0, x1, x2, x3, x4, _⟩ := HX3.out
                      obtain ⟨f0, f1, f2, f3, _⟩ := HF3.out
                      go_wp2_with fail
                      refine (HB.out _).mono ?_
                      rintro e w4 ⟨rfl, hb⟩
                      have HX4 := Lib.hid (HX3.out.below hb)
                      have HF4 := Lib.hid (HF3.out.below hb)
                      have HB4 := Lib.hid (HB3.out.trans (hb.mono HB3.out.size))
                      clear hb
                      obtain ⟨x0, x1, x2, x3, x4, _⟩ := HX4.out
                      obtain ⟨f0, f1, f2, f3, _⟩ := HF4.out
                      go_wp2_with fail
                      refine (HI.out _).mono ?_
                      rintro e w5 ⟨rfl, hb⟩
                      have HX5 := Lib.hid (HX4.out.below hb)
                      have HF5 := Lib.hid (HF4.out.below hb)
                      have HB5 := Lib.hid (HB4.out.trans (hb.mono HB4.out.size))
                      clear hb
                      obtain ⟨x0, x1, x2, x3, x4, _⟩ := HX5.out
                      obtain ⟨f0, f1, f2, f3, _⟩ := HF5.out
                      go_wp2_with fail
                      refine (HI.out _).mono ?_
                      rintro e w6 ⟨rfl, hb⟩
                      have HX6 := Lib.hid (HX5.out.below hb)
                      have HF6 := Lib.hid (HF5.out.below hb)
                      have HB6 := Lib.hid (HB5.out.trans (hb.mono HB5.out.size))
                      clear hb
                      obtain ⟨x0, x1, x2, x3, x4, _⟩ := HX6.out
                      obtain ⟨f0, f1, f2, f3, _⟩ := HF6.out
                      go_wp2_with fail
                      go_ret
                      exact ⟨ret_chk (n := 20) HZ.out (R := false) (by simp [chkQ, G8.out, G16.out]; try omega) (by decide), HB6.out⟩
                · have g27 : (op == 27) = false := by simpa using h27
                  have G27 := Lib.hid h27
                  clear h27
                  go_enter Tryz.func56, Tryz.ntmps56
                  go_wp2_with fail
                  refine (HF.out _).mono ?_
                  rintro e w1 ⟨rfl, hb⟩
                  have HX1 := Lib.hid (((XAt.fresh w op d a b i 94).below hb).below ((Below.refl _ _).alloc (Nat.le_refl _) (.cells #[.string fs, .int .i64 lo, .int .i64 hi, .int .i64 bits] 115)))
                  have HF1 := Lib.hid (FAt.fresh w1 fs lo hi bits 115)
                  have HB1 := Lib.hid (((((Below.refl _ _).alloc (Nat.le_refl _) (.cells #[.int .i64 op, .int .i64 d, .int .i64 a, .int .i64 b, .int .i64 i] 94) : Below w.heap.size w _).trans (hb.mono (by simp))).alloc (Below.size ((((Below.refl _ _).alloc (Nat.le_refl _) (.cells #[.int .i64 op, .int .i64 d, .int .i64 a, .int .i64 b, .int .i64 i] 94) : Below w.heap.size w _).trans (hb.mono (by simp))))) (.cells #[.string fs, .int .i64 lo, .int .i64 hi, .int .i64 bits] 115)))
                  clear hb
                  obtain ⟨x0, x1, x2, x3, x4, _⟩ := HX1.out
                  obtain ⟨f0, f1, f2, f3, _⟩ := HF1.out
                  go_wp2_with fail
                  refine (HD.out _).mono ?_
                  rintro e w2 ⟨rfl, hb⟩
                  have HX2 := Lib.hid (HX1.out.below hb)
                  have HF2 := Lib.hid (HF1.out.below hb)
                  have HB2 := Lib.hid (HB1.out.trans (hb.mono HB1.out.size))
                  clear hb
                  obtain ⟨x0, x1, x2, x3, x4, _⟩ := HX2.out
                  obtain ⟨f0, f1, f2, f3, _⟩ := HF2.out
                  go_wp2_with fail
                  refine (HA.out _).mono ?_
                  rintro e w3 ⟨rfl, hb⟩
                  have HX3 := Lib.hid (HX2.out.below hb)
                  have HF3 := Lib.hid (HF2.out.below hb)
                  have HB3 := Lib.hid (HB2.out.trans (hb.mono HB2.out.size))
                  clear hb
                  obtain ⟨x0, x1, x2, x3, x4, _⟩ := HX3.out
                  obtain ⟨f0, f1, f2, f3, _⟩ := HF3.out
                  go_wp2_with fail
                  refine (HB.out _).mono ?_
                  rintro e w4 ⟨rfl, hb⟩
                  have HX4 := Lib.hid (HX3.out.below hb)
                  have HF4 := Lib.hid (HF3.out.below hb)
                  have HB4 := Lib.hid (HB3.out.trans (hb.mono HB3.out.size))
                  clear hb
                  obtain ⟨x0, x1, x2, x3, x4, _⟩ := HX4.out
                  obtain ⟨f0, f1, f2, f3, _⟩ := HF4.out
                  go_wp2_with fail
                  refine (HI.out _).mono ?_
                  rintro e w5 ⟨rfl, hb⟩
                  have HX5 := Lib.hid (HX4.out.below hb)
                  have HF5 := Lib.hid (HF4.out.below hb)
                  have HB5 := Lib.hid (HB4.out.trans (hb.mono HB4.out.size))
                  clear hb
                  obtain ⟨x0, x1, x2, x3, x4, _⟩ := HX5.out
                  obtain ⟨f0, f1, f2, f3, _⟩ := HF5.out
                  go_wp2_with fail
                  refine (HI.out _).mono ?_
                  rintro e w6 ⟨rfl, hb⟩
                  have HX6 := Lib.hid (HX5.out.below hb)
                  have HF6 := Lib.hid (HF5.out.below hb)
                  have HB6 := Lib.hid (HB5.out.trans (hb.mono HB5.out.size))
                  clear hb
                  obtain ⟨x0, x1, x2, x3, x4, _⟩ := HX6.out
                  obtain ⟨f0, f1, f2, f3, _⟩ := HF6.out
                  go_wp2_with fail
                  go_ret
                  exact ⟨ret_chk (n := 0) HZ.out (R := true) (by simp [chkQ, G27.out]; try omega) (by decide), HB6.out⟩
              · go_enter Tryz.func56, Tryz.ntmps56
                go_wp2_with fail
                refine (HF.out _).mono ?_
                rintro e w1 ⟨rfl, hb⟩
                have HX1 := Lib.hid (((XAt.fresh w op d a b i 94).below hb).below ((Below.refl _ _).alloc (Nat.le_refl _) (.cells #[.string fs, .int .i64 lo, .int .i64 hi, .int .i64 bits] 115)))
                have HF1 := Lib.hid (FAt.fresh w1 fs lo hi bits 115)
                have HB1 := Lib.hid (((((Below.refl _ _).alloc (Nat.le_refl _) (.cells #[.int .i64 op, .int .i64 d, .int .i64 a, .int .i64 b, .int .i64 i] 94) : Below w.heap.size w _).trans (hb.mono (by simp))).alloc (Below.size ((((Below.refl _ _).alloc (Nat.le_refl _) (.cells #[.int .i64 op, .int .i64 d, .int .i64 a, .int .i64 b, .int .i64 i] 94) : Below w.heap.size w _).trans (hb.mono (by simp))))) (.cells #[.string fs, .int .i64 lo, .int .i64 hi, .int .i64 bits] 115)))
                clear hb
                obtain ⟨x0, x1, x2, x3, x4, _⟩ := HX1.out
                obtain ⟨f0, f1, f2, f3, _⟩ := HF1.out
                go_wp2_with fail
                refine (HD.out _).mono ?_
                rintro e w2 ⟨rfl, hb⟩
                have HX2 := Lib.hid (HX1.out.below hb)
                have HF2 := Lib.hid (HF1.out.below hb)
                have HB2 := Lib.hid (HB1.out.trans (hb.mono HB1.out.size))
                clear hb
                obtain ⟨x0, x1, x2, x3, x4, _⟩ := HX2.out
                obtain ⟨f0, f1, f2, f3, _⟩ := HF2.out
                go_wp2_with fail
                refine (HA.out _).mono ?_
                rintro e w3 ⟨rfl, hb⟩
                have HX3 := Lib.hid (HX2.out.below hb)
                have HF3 := Lib.hid (HF2.out.below hb)
                have HB3 := Lib.hid (HB2.out.trans (hb.mono HB2.out.size))
                clear hb
                obtain ⟨x0, x1, x2, x3, x4, _⟩ := HX3.out
                obtain ⟨f0, f1, f2, f3, _⟩ := HF3.out
                go_wp2_with fail
                refine (HB.out _).mono ?_
                rintro e w4 ⟨rfl, hb⟩
                have HX4 := Lib.hid (HX3.out.below hb)
                have HF4 := Lib.hid (HF3.out.below hb)
                have HB4 := Lib.hid (HB3.out.trans (hb.mono HB3.out.size))
                clear hb
                obtain ⟨x0, x1, x2, x3, x4, _⟩ := HX4.out
                obtain ⟨f0, f1, f2, f3, _⟩ := HF4.out
                go_wp2_with fail
                refine (HI.out _).mono ?_
                rintro e w5 ⟨rfl, hb⟩
                have HX5 := Lib.hid (HX4.out.below hb)
                have HF5 := Lib.hid (HF4.out.below hb)
                have HB5 := Lib.hid (HB4.out.trans (hb.mono HB4.out.size))
                clear hb
                obtain ⟨x0, x1, x2, x3, x4, _⟩ := HX5.out
                obtain ⟨f0, f1, f2, f3, _⟩ := HF5.out
                go_wp2_with fail
                refine (HI.out _).mono ?_
                rintro e w6 ⟨rfl, hb⟩
                have HX6 := Lib.hid (HX5.out.below hb)
                have HF6 := Lib.hid (HF5.out.below hb)
                have HB6 := Lib.hid (HB5.out.trans (hb.mono HB5.out.size))
                clear hb
                obtain ⟨x0, x1, x2, x3, x4, _⟩ := HX6.out
                obtain ⟨f0, f1, f2, f3, _⟩ := HF6.out
                go_wp2_with fail
                go_ret
                exact ⟨ret_chk (n := 20) HZ.out (R := false) (by simp [chkQ]; try omega) (by decide), HB6.out⟩
            · go_enter Tryz.func56, Tryz.ntmps56
              go_wp2_with fail
              refine (HF.out _).mono ?_
              rintro e w1 ⟨rfl, hb⟩
              have HX1 := Lib.hid (((XAt.fresh w op d a b i 94).below hb).below ((Below.refl _ _).alloc (Nat.le_refl _) (.cells #[.string fs, .int .i64 lo, .int .i64 hi, .int .i64 bits] 115)))
              have HF1 := Lib.hid (FAt.fresh w1 fs lo hi bits 115)
              have HB1 := Lib.hid (((((Below.refl _ _).alloc (Nat.le_refl _) (.cells #[.int .i64 op, .int .i64 d, .int .i64 a, .int .i64 b, .int .i64 i] 94) : Below w.heap.size w _).trans (hb.mono (by simp))).alloc (Below.size ((((Below.refl _ _).alloc (Nat.le_refl _) (.cells #[.int .i64 op, .int .i64 d, .int .i64 a, .int .i64 b, .int .i64 i] 94) : Below w.heap.size w _).trans (hb.mono (by simp))))) (.cells #[.string fs, .int .i64 lo, .int .i64 hi, .int .i64 bits] 115)))
              clear hb
              obtain ⟨x0, x1, x2, x3, x4, _⟩ := HX1.out
              obtain ⟨f0, f1, f2, f3, _⟩ := HF1.out
              go_wp2_with fail
              refine (HD.out _).mono ?_
              rintro e w2 ⟨rfl, hb⟩
              have HX2 := Lib.hid (HX1.out.below hb)
              have HF2 := Lib.hid (HF1.out.below hb)
              have HB2 := Lib.hid (HB1.out.trans (hb.mono HB1.out.size))
              clear hb
              obtain ⟨x0, x1, x2, x3, x4, _⟩ := HX2.out
              obtain ⟨f0, f1, f2, f3, _⟩ := HF2.out
              go_wp2_with fail
              refine (HA.out _).mono ?_
              rintro e w3 ⟨rfl, hb⟩
              have HX3 := Lib.hid (HX2.out.below hb)
              have HF3 := Lib.hid (HF2.out.below hb)
              have HB3 := Lib.hid (HB2.out.trans (hb.mono HB2.out.size))
              clear hb
              obtain ⟨x0, x1, x2, x3, x4, _⟩ := HX3.out
              obtain ⟨f0, f1, f2, f3, _⟩ := HF3.out
              go_wp2_with fail
              refine (HB.out _).mono ?_
              rintro e w4 ⟨rfl, hb⟩
              have HX4 := Lib.hid (HX3.out.below hb)
              have HF4 := Lib.hid (HF3.out.below hb)
              have HB4 := Lib.hid (HB3.out.trans (hb.mono HB3.out.size))
              clear hb
              obtain ⟨x0, x1, x2, x3, x4, _⟩ := HX4.out
              obtain ⟨f0, f1, f2, f3, _⟩ := HF4.out
              go_wp2_with fail
              refine (HI.out _).mono ?_
              rintro e w5 ⟨rfl, hb⟩
              have HX5 := Lib.hid (HX4.out.below hb)
              have HF5 := Lib.hid (HF4.out.below hb)
              have HB5 := Lib.hid (HB4.out.trans (hb.mono HB4.out.size))
              clear hb
              obtain ⟨x0, x1, x2, x3, x4, _⟩ := HX5.out
              obtain ⟨f0, f1, f2, f3, _⟩ := HF5.out
              go_wp2_with fail
              refine (HI.out _).mono ?_
              rintro e w6 ⟨rfl, hb⟩
              have HX6 := Lib.hid (HX5.out.below hb)
              have HF6 := Lib.hid (HF5.out.below hb)
              have HB6 := Lib.hid (HB5.out.trans (hb.mono HB5.out.size))
              clear hb
              obtain ⟨x0, x1, x2, x3, x4, _⟩ := HX6.out
              obtain ⟨f0, f1, f2, f3, _⟩ := HF6.out
              go_wp2_with fail
              go_ret
              exact ⟨ret_chk (n := 20) HZ.out (R := false) (by simp [chkQ]; try omega) (by decide), HB6.out⟩
end Go.Proofs.YteoglkofeogknaaGreatDoor
