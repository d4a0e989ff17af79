/- Walks: (bounds).exit$1, exit, function$1, Exits. Conditions: the table of keywords. -/
import Derived.Test.YtlmoblmkhicoeaaGreatDoorI7
set_option linter.unusedVariables false
set_option linter.unusedSimpArgs false
namespace Go.Proofs.YtlmoblmkhicoeaaGreatDoor
open Go.RowKit
theorem to_any (n blocks : Int) (g : Nat) (w : World) (h : w.cell? ⟨g, 0, none⟩ = some (.int .i64 blocks)) : Calls Tryz.prog 94 #[.int .i64 n, .pointer (some ⟨g, 0, none⟩)] w fun e w' => e = .returned (.bool (toB n blocks)) ∧ w' = w := by
  rcases (show n < 1 ∨ (1 ≤ n ∧ n < blocks) ∨ (1 ≤ n ∧ blocks ≤ n) by omega) with h1 | ⟨h1, h2⟩ | ⟨h1, h2⟩
  all_goals
    go_enter Tryz.func94, Tryz.ntmps94
    go_wp2
    go_ret
    exact ⟨ret_bool (by rw [Bool.eq_iff_iff]; simp [toB]; try omega), rfl⟩
def exA (x : Ex) : Array Value := #[.int .i64 x.k, .int .i64 x.a, .int .i64 x.d, .int .i64 x.t, .int .i64 x.e]
def exv (x : Ex) : Value := .agg #[.int .i64 x.k, .int .i64 x.a, .int .i64 x.d, .int .i64 x.t, .int .i64 x.e]
structure ExW (w : World) (regs sl st : Int) (x : Ex) (blocks : Int) (W : World) : Prop where
  bn : Blk W w.heap.size 133 (bndA regs sl st)
  ex : Blk W (w.heap.size + 1) 43 (exA x)
  bl : Blk W (w.heap.size + 1 + 1) 3 #[.int .i64 blocks]
  be : Below w.heap.size w W
theorem ExW.next {w W W' : World} {regs sl st blocks : Int} {x : Ex} (h : ExW w regs sl st x blocks W) (hb : Below W.heap.size W W') : ExW w regs sl st x blocks W' :=
  ⟨h.bn.below hb h.bn.lt, h.ex.below hb h.ex.lt, h.bl.below hb h.bl.lt, h.be.trans (below_of_le hb h.be.size)⟩
structure ExC (regs sl st : Int) (x : Ex) (blocks : Int) (n : Nat) (W : World) : Prop where
  b0 : W.cell? ⟨n, 0, none⟩ = some (.int .i64 regs)
  b1 : W.cell? ⟨n, 1, none⟩ = some (.int .i64 sl)
  b2 : W.cell? ⟨n, 2, none⟩ = some (.int .i64 st)
  x0 : W.cell? ⟨n + 1, 0, none⟩ = some (.int .i64 x.k)
  x1 : W.cell? ⟨n + 1, 1, none⟩ = some (.int .i64 x.a)
  x2 : W.cell? ⟨n + 1, 2, none⟩ = some (.int .i64 x.d)
  x3 : W.cell? ⟨n + 1, 3, none⟩ = some (.int .i64 x.t)
  x4 : W.cell? ⟨n + 1, 4, none⟩ = some (.int .i64 x.e)
  c0 : W.cell? ⟨n + 1 + 1, 0, none⟩ = some (.int .i64 blocks)
theorem ExW.cells {w W : World} {regs sl st blocks : Int} {x : Ex} (h : ExW w regs sl st x blocks W) : ExC regs sl st x blocks w.heap.size W :=
  ⟨(h.bn.cell 0).trans rfl, (h.bn.cell 1).trans rfl, (h.bn.cell 2).trans rfl, (h.ex.cell 0).trans rfl, (h.ex.cell 1).trans rfl, (h.ex.cell 2).trans rfl, (h.ex.cell 3).trans rfl, (h.ex.cell 4).trans rfl, (h.bl.cell 0).trans rfl⟩
theorem ExW.start (w : World) (regs sl st blocks : Int) (x : Ex) : ExW w regs sl st x blocks (((w.alloc (.cells (bndA regs sl st) 133)).alloc (.cells (exA x) 43)).alloc (.cells #[.int .i64 blocks] 3)) :=
  ⟨((Blk.new w 133 (bndA regs sl st)).alloc _).alloc _, (blk_at (w := w.alloc (.cells (bndA regs sl st) 133)) (by simp [World.size_alloc]) 43 (exA x)).alloc _, blk_at (by simp [World.size_alloc]) 3 _,
   (((Below.refl w.heap.size w).alloc (Nat.le_refl _) _).alloc (by simp [World.size_alloc]) _).alloc (by simp [World.size_alloc]; omega) _⟩
set_option maxRecDepth 100000 in
set_option maxHeartbeats 4000000 in
theorem exit_any (regs sl st blocks : Int) (x : Ex) (w : World) :
    Calls Tryz.prog 73 #[bnds regs sl st, exv x, .int .i64 blocks] w fun e w' => e = .returned (.bool (exB regs blocks x)) ∧ Below w.heap.size w w' := by
  have HRG := Lib.hid (fun r u m w => reg_any regs sl st r u m w)
  have HW := Lib.hid (ExW.start w regs sl st blocks x)
  unfold bnds at HRG
  unfold bnds exv
  unfold bndA exA at HW
  go_enter Tryz.func73, Tryz.ntmps73
  obtain ⟨b0, b1, b2, x0, x1, x2, x3, x4, c0⟩ := HW.out.cells
  cases k1 : (x.k == 1) with
  | true =>
    have HO := Lib.hid (show exB regs blocks x = (x.a == -1 && (x.d == -1 && (toB x.t blocks && x.e == 0))) by simp [exB, eq_of_beq k1])
    cases e1 : (x.a == -1) with
    | true =>
      cases e2 : (x.d == -1) with
      | true =>
        obtain ⟨v3, hv3⟩ : ∃ b, toB x.t blocks = b := ⟨_, rfl⟩
        rw [hv3] at HO
        have QT := Lib.hid (to_any x.t blocks (w.heap.size + 1 + 1) _ c0)
        rw [hv3] at QT
        clear hv3
        go_wp2_with fail
        refine QT.out.mono ?_
        rintro e w9 ⟨rfl, rfl⟩
        clear QT
        cases v3 with
        | false =>
          go_wp2_with fail
          go_ret
          exact ⟨ret_bool (by rw [HO.out]; try simp [*]), HW.out.be⟩
        | true =>
          cases e4 : (x.e == 0) with
          | true =>
            go_wp2_with fail
            go_ret
            exact ⟨ret_bool (by rw [HO.out]; try simp [*]), HW.out.be⟩
          | false =>
            go_wp2_with fail
            go_ret
            exact ⟨ret_bool (by rw [HO.out]; try simp [*]), HW.out.be⟩
      | false =>
        go_wp2_with fail
        go_ret
        exact ⟨ret_bool (by rw [HO.out]; try simp [*]), HW.out.be⟩
    | false =>
      go_wp2_with fail
      go_ret
      exact ⟨ret_bool (by rw [HO.out]; try simp [*]), HW.out.be⟩
  | false =>
    cases k2 : (x.k == 2) with
    | true =>
      have HO := Lib.hid (show exB regs blocks x = (regB regs x.a true false && (x.d == -1 && (toB x.t blocks && toB x.e blocks))) by simp [exB, eq_of_beq k2])
      obtain ⟨v5, hv5⟩ : ∃ b, regB regs x.a true false = b := ⟨_, rfl⟩
      have QT := Lib.hid (fun w => HRG.out x.a true false w)
      rw [hv5] at HO QT
      clear hv5
      go_wp2_with fail
      refine (QT.out _).mono ?_
      rintro e w9 ⟨rfl, hb9⟩
      replace HW := Lib.hid (HW.out.next hb9)
      clear QT hb9 b0 b1 b2 x0 x1 x2 x3 x4 c0
      obtain ⟨b0, b1, b2, x0, x1, x2, x3, x4, c0⟩ := HW.out.cells
      cases v5 with
      | false =>
        go_wp2_with fail
        go_ret
        exact ⟨ret_bool (by rw [HO.out]; try simp [*]), HW.out.be⟩
      | true =>
        cases e6 : (x.d == -1) with
        | true =>
          obtain ⟨v7, hv7⟩ : ∃ b, toB x.t blocks = b := ⟨_, rfl⟩
          rw [hv7] at HO
          have QT := Lib.hid (to_any x.t blocks (w.heap.size + 1 + 1) _ c0)
          rw [hv7] at QT
          clear hv7
          go_wp2_with fail
          refine QT.out.mono ?_
          rintro e w9 ⟨rfl, rfl⟩
          clear QT
          cases v7 with
          | false =>
            go_wp2_with fail
            go_ret
            exact ⟨ret_bool (by rw [HO.out]; try simp [*]), HW.out.be⟩
          | true =>
            obtain ⟨v8, hv8⟩ : ∃ b, toB x.e blocks = b := ⟨_, rfl⟩
            rw [hv8] at HO
            have QT := Lib.hid (to_any x.e blocks (w.heap.size + 1 + 1) _ c0)
            rw [hv8] at QT
            clear hv8
            go_wp2_with fail
            refine QT.out.mono ?_
            rintro e w9 ⟨rfl, rfl⟩
            clear QT
            cases v8 with
            | false =>
              go_wp2_with fail
              go_ret
              exact ⟨ret_bool (by rw [HO.out]; try simp [*]), HW.out.be⟩
            | true =>
              go_wp2_with fail
              go_ret
              exact ⟨ret_bool (by rw [HO.out]; try simp [*]), HW.out.be⟩
        | false =>
          go_wp2_with fail
          go_ret
          exact ⟨ret_bool (by rw [HO.out]; try simp [*]), HW.out.be⟩
    | false =>
      cases k3 : (x.k == 3) with
      | true =>
        have HO := Lib.hid (show exB regs blocks x = (regB regs x.a true true && (x.d == -1 && (x.t == 0 && x.e == 0))) by simp [exB, eq_of_beq k3])
        obtain ⟨v9, hv9⟩ : ∃ b, regB regs x.a true true = b := ⟨_, rfl⟩
        have QT := Lib.hid (fun w => HRG.out x.a true true w)
        rw [hv9] at HO QT
        clear hv9
        go_wp2_with fail
        refine (QT.out _).mono ?_
        rintro e w9 ⟨rfl, hb9⟩
        replace HW := Lib.hid (HW.out.next hb9)
        clear QT hb9 b0 b1 b2 x0 x1 x2 x3 x4 c0
        obtain ⟨b0, b1, b2, x0, x1, x2, x3, x4, c0⟩ := HW.out.cells
        cases v9 with
        | false =>
          go_wp2_with fail
          go_ret
          exact ⟨ret_bool (by rw [HO.out]; try simp [*]), HW.out.be⟩
        | true =>
          cases e10 : (x.d == -1) with
          | true =>
            cases e11 : (x.t == 0) with
            | true =>
              cases e12 : (x.e == 0) with
              | true =>
                go_wp2_with fail
                go_ret
                exact ⟨ret_bool (by rw [HO.out]; try simp [*]), HW.out.be⟩
              | false =>
                go_wp2_with fail
                go_ret
                exact ⟨ret_bool (by rw [HO.out]; try simp [*]), HW.out.be⟩
            | false =>
              go_wp2_with fail
              go_ret
              exact ⟨ret_bool (by rw [HO.out]; try simp [*]), HW.out.be⟩
          | false =>
            go_wp2_with fail
            go_ret
            exact ⟨ret_bool (by rw [HO.out]; try simp [*]), HW.out.be⟩
      | false =>
        cases k4 : (x.k == 4) with
        | true =>
          have HO := Lib.hid (show exB regs blocks x = (regB regs x.a true false && (regB regs x.d true false && (toB x.t blocks && (toB x.e blocks && x.t != x.e)))) by simp [exB, eq_of_beq k4])
          obtain ⟨v13, hv13⟩ : ∃ b, regB regs x.a true false = b := ⟨_, rfl⟩
          have QT := Lib.hid (fun w => HRG.out x.a true false w)
          rw [hv13] at HO QT
          clear hv13
          go_wp2_with fail
          refine (QT.out _).mono ?_
          rintro e w9 ⟨rfl, hb9⟩
          replace HW := Lib.hid (HW.out.next hb9)
          clear QT hb9 b0 b1 b2 x0 x1 x2 x3 x4 c0
          obtain ⟨b0, b1, b2, x0, x1, x2, x3, x4, c0⟩ := HW.out.cells
          cases v13 with
          | false =>
            go_wp2_with fail
            go_ret
            exact ⟨ret_bool (by rw [HO.out]; try simp [*]), HW.out.be⟩
          | true =>
            obtain ⟨v14, hv14⟩ : ∃ b, regB regs x.d true false = b := ⟨_, rfl⟩
            have QT := Lib.hid (fun w => HRG.out x.d true false w)
            rw [hv14] at HO QT
            clear hv14
            go_wp2_with fail
            refine (QT.out _).mono ?_
            rintro e w9 ⟨rfl, hb9⟩
            replace HW := Lib.hid (HW.out.next hb9)
            clear QT hb9 b0 b1 b2 x0 x1 x2 x3 x4 c0
            obtain ⟨b0, b1, b2, x0, x1, x2, x3, x4, c0⟩ := HW.out.cells
            cases v14 with
            | false =>
              go_wp2_with fail
              go_ret
              exact ⟨ret_bool (by rw [HO.out]; try simp [*]), HW.out.be⟩
            | true =>
              obtain ⟨v15, hv15⟩ : ∃ b, toB x.t blocks = b := ⟨_, rfl⟩
              rw [hv15] at HO
              have QT := Lib.hid (to_any x.t blocks (w.heap.size + 1 + 1) _ c0)
              rw [hv15] at QT
              clear hv15
              go_wp2_with fail
              refine QT.out.mono ?_
              rintro e w9 ⟨rfl, rfl⟩
              clear QT
              cases v15 with
              | false =>
                go_wp2_with fail
                go_ret
                exact ⟨ret_bool (by rw [HO.out]; try simp [*]), HW.out.be⟩
              | true =>
                obtain ⟨v16, hv16⟩ : ∃ b, toB x.e blocks = b := ⟨_, rfl⟩
                rw [hv16] at HO
                have QT := Lib.hid (to_any x.e blocks (w.heap.size + 1 + 1) _ c0)
                rw [hv16] at QT
                clear hv16
                go_wp2_with fail
                refine QT.out.mono ?_
                rintro e w9 ⟨rfl, rfl⟩
                clear QT
                cases v16 with
                | false =>
                  go_wp2_with fail
                  go_ret
                  exact ⟨ret_bool (by rw [HO.out]; try simp [*]), HW.out.be⟩
                | true =>
                  cases e17 : (x.t != x.e) with
                  | false =>
                    go_wp2_with fail
                    go_ret
                    exact ⟨ret_bool (by rw [HO.out]; try simp [*]), HW.out.be⟩
                  | true =>
                    go_wp2_with fail
                    go_ret
                    exact ⟨ret_bool (by rw [HO.out]; try simp [*]), HW.out.be⟩
        | false =>
          have HO := Lib.hid (show exB regs blocks x = false by simp [exB, ne_of_beq_false k1, ne_of_beq_false k2, ne_of_beq_false k3, ne_of_beq_false k4])
          go_wp2_with fail
          go_ret
          exact ⟨ret_bool (by rw [HO.out]; try simp [*]), HW.out.be⟩
theorem enters_fn1 (a : Array Value) (w : World) : (callFunc 75 a).run Tryz.prog w = .ok (.enter 75 a) w := by kernel_rfl
theorem KeysAt.belowS {w w' : World} (h : KeysAt w) (hb : Below w.heap.size w w') : KeysAt w' := h.below hb
end Go.Proofs.YtlmoblmkhicoeaaGreatDoor
