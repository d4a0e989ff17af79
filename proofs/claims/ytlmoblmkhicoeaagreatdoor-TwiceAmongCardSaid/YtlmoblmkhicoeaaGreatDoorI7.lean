/- Walks: (bounds).op$1, (bounds).op. Conditions: the table of keywords. -/
import Derived.Test.YtlmoblmkhicoeaaGreatDoorI6
set_option linter.unusedVariables false
set_option linter.unusedSimpArgs false
namespace Go.Proofs.YtlmoblmkhicoeaaGreatDoor
open Go.RowKit
attribute [local go_sem] store_func_ store_nil_
theorem enters_op1 (a : Array Value) (w : World) : (callFunc 88 a).run Tryz.prog w = .ok (.enter 88 a) w := by kernel_rfl
def bndA (regs sl st : Int) : Array Value := #[.int .i64 regs, .int .i64 sl, .int .i64 st]
set_option maxRecDepth 100000 in
theorem op1_any (g : Nat) (regs sl st : Int) (w : World) (h : Blk w g 133 (bndA regs sl st)) : Tests w 88 #[.pointer (some ⟨g, 0, none⟩)] atI (fun a => !regB regs a true false) := by
  rintro W hb x v rfl
  have hB := h.below hb h.lt
  have HR := Lib.hid (fun W => reg_any regs sl st x true false W)
  have c0 : W.cell? ⟨g, 0, none⟩ = some (.int .i64 regs) := by rw [hB.cell]; rfl
  have c1 : W.cell? ⟨g, 1, none⟩ = some (.int .i64 sl) := by rw [hB.cell]; rfl
  have c2 : W.cell? ⟨g, 2, none⟩ = some (.int .i64 st) := by rw [hB.cell]; rfl
  clear hB h hb
  show Calls Tryz.prog 88 #[.int .i64 x, .pointer (some ⟨g, 0, none⟩)] W _
  go_enter Tryz.func88, Tryz.ntmps88
  go_wp2_with fail
  refine (HR.out _).mono ?_
  rintro e w1 ⟨rfl, hb⟩
  go_wp2_with fail
  go_ret
  exact ⟨rfl, hb⟩
theorem enters_im (k : ImK) (a : Array Value) (w : World) : (callFunc (imF k) a).run Tryz.prog w = .ok (.enter (imF k) a) w := by cases k <;> kernel_rfl
theorem enters_tx (k : TxK) (a : Array Value) (w : World) : (callFunc (txF k) a).run Tryz.prog w = .ok (.enter (txF k) a) w := by cases k <;> kernel_rfl
def opA (o : Op) (av : Value) : Array Value := #[.int .i64 o.k, .int .i64 o.d, .int .i64 o.a, .int .i64 o.b, .int .i64 o.im, .string o.tx, av]
def rulA (r : Rule) (s : ByteArray) : Array Value := #[.string s, .bool r.d, .bool r.a, .bool r.b, .func (.func (imF r.im)) #[] #[], .func (.func (txF r.tx)) #[] #[], .bool r.ar, .bool r.mb]
/-- The blocks of op's frame. -/
structure OpW (w : World) (regs sl st : Int) (o : Op) (av : Value) (r : Rule) (s : ByteArray) (g : Nat) (W : World) : Prop where
  bn : Blk W w.heap.size 133 (bndA regs sl st)
  op : Blk W (w.heap.size + 1) 75 (opA o av)
  ru : Blk W g 152 (rulA r s)
  be : Below w.heap.size w W
theorem OpW.next {w W W' : World} {regs sl st : Int} {o : Op} {av : Value} {r : Rule} {s : ByteArray} {g : Nat} (h : OpW w regs sl st o av r s g W) (hb : Below W.heap.size W W') : OpW w regs sl st o av r s g W' :=
  ⟨h.bn.below hb h.bn.lt, h.op.below hb h.op.lt, h.ru.below hb h.ru.lt, h.be.trans (below_of_le hb h.be.size)⟩
structure OpC (regs sl st : Int) (o : Op) (av : Value) (r : Rule) (s : ByteArray) (n g : Nat) (W : World) : Prop where
  b0 : W.cell? ⟨n, 0, none⟩ = some (.int .i64 regs)
  b1 : W.cell? ⟨n, 1, none⟩ = some (.int .i64 sl)
  b2 : W.cell? ⟨n, 2, none⟩ = some (.int .i64 st)
  o0 : W.cell? ⟨n + 1, 0, none⟩ = some (.int .i64 o.k)
  o1 : W.cell? ⟨n + 1, 1, none⟩ = some (.int .i64 o.d)
  o2 : W.cell? ⟨n + 1, 2, none⟩ = some (.int .i64 o.a)
  o3 : W.cell? ⟨n + 1, 3, none⟩ = some (.int .i64 o.b)
  o4 : W.cell? ⟨n + 1, 4, none⟩ = some (.int .i64 o.im)
  o5 : W.cell? ⟨n + 1, 5, none⟩ = some (.string o.tx)
  o6 : W.cell? ⟨n + 1, 6, none⟩ = some av
  r1 : W.cell? ⟨g, 1, none⟩ = some (.bool r.d)
  r2 : W.cell? ⟨g, 2, none⟩ = some (.bool r.a)
  r3 : W.cell? ⟨g, 3, none⟩ = some (.bool r.b)
  r4 : W.cell? ⟨g, 4, none⟩ = some (.func (.func (imF r.im)) #[] #[])
  r5 : W.cell? ⟨g, 5, none⟩ = some (.func (.func (txF r.tx)) #[] #[])
  r6 : W.cell? ⟨g, 6, none⟩ = some (.bool r.ar)
  r7 : W.cell? ⟨g, 7, none⟩ = some (.bool r.mb)
theorem OpW.cells {w W : World} {regs sl st : Int} {o : Op} {av : Value} {r : Rule} {s : ByteArray} {g : Nat} (h : OpW w regs sl st o av r s g W) : OpC regs sl st o av r s w.heap.size g W :=
  ⟨(h.bn.cell 0).trans rfl, (h.bn.cell 1).trans rfl, (h.bn.cell 2).trans rfl, (h.op.cell 0).trans rfl, (h.op.cell 1).trans rfl, (h.op.cell 2).trans rfl, (h.op.cell 3).trans rfl, (h.op.cell 4).trans rfl, (h.op.cell 5).trans rfl, (h.op.cell 6).trans rfl,
   (h.ru.cell 1).trans rfl, (h.ru.cell 2).trans rfl, (h.ru.cell 3).trans rfl, (h.ru.cell 4).trans rfl, (h.ru.cell 5).trans rfl, (h.ru.cell 6).trans rfl, (h.ru.cell 7).trans rfl⟩
theorem opB_some {regs sl st : Int} {o : Op} {r : Rule} (h : ruleL o.k = some r) : opB regs sl st o = (regB regs o.d r.d r.mb && (regB regs o.a r.a false && (regB regs o.b r.b false && (imB r.im o.im && (txB r.tx o.tx && ((r.ar || !decide (0 < o.ar.length)) && (!(o.ar.any (fun a => !regB regs a true false)) && tailB sl st o))))))) := by
  have e : o.ar.all (fun a => regB regs a true false) = !(o.ar.any (fun a => !regB regs a true false)) := by rw [Bool.eq_iff_iff]; simp
  rw [opB, h, e]
theorem opB_none {regs sl st : Int} {o : Op} (h : ruleL o.k = none) : opB regs sl st o = false := by rw [opB, h]
set_option maxRecDepth 100000 in
set_option maxHeartbeats 4000000 in
theorem op_any (regs sl st : Int) (o : Op) (av : Value) (w : World) (ha : Ints w av o.ar) (hk : KeysAt w) (hs : o.tx.size ≤ maxLen) :
    Calls Tryz.prog 66 #[bnds regs sl st, opv o av] w fun e w' => e = .returned (.bool (opB regs sl st o)) ∧ Below w.heap.size w w' := by
  obtain ⟨A, c, rfl, h1, h2⟩ := ha.form
  unfold maxLen at h2
  have HA := Lib.hid ha
  have HK := Lib.hid hk
  have HS := Lib.hid hs
  have HRU := Lib.hid (fun w => ruleOf_any o.k w)
  have HRG := Lib.hid (fun r u m w => reg_any regs sl st r u m w)
  clear ha hk hs
  unfold bnds opv
  unfold bnds at HRG
  go_enter Tryz.func66, Tryz.ntmps66
  go_wp2_with fail
  refine (HRU.out _).mono ?_
  rintro e w1 ⟨⟨rv, rfl, hr1, hr0⟩, hb1⟩
  have hbn := Blk.below (Blk.alloc (Blk.new w 133 (bndA regs sl st)) (.cells (opA o (.slice A o.ar.length c)) 75)) hb1 (by simp [World.size_alloc]; omega)
  have hop : Blk w1 (w.heap.size + 1) 75 (opA o (.slice A o.ar.length c)) := Blk.below (blk_at (w := w.alloc (.cells (bndA regs sl st) 133)) (by simp [World.size_alloc]) 75 (opA o (.slice A o.ar.length c))) hb1 (by simp [World.size_alloc])
  have hbw : Below w.heap.size w w1 := (((Below.refl w.heap.size w).alloc (Nat.le_refl _) _).alloc (by simp [World.size_alloc]) _).trans (below_of_le hb1 (by simp [World.size_alloc]; omega))
  have hge : w.heap.size + 1 < w1.heap.size := hop.lt
  clear HRU hb1
  cases hr : ruleL o.k with
  | none =>
    obtain rfl := hr0 hr
    have HO := Lib.hid (opB_none (regs := regs) (sl := sl) (st := st) hr)
    have HBW := Lib.hid (hbw.alloc hbw.size (.cells #[.string ⟨#[]⟩, .bool false, .bool false, .bool false, .nilFunc, .nilFunc, .bool false, .bool false] 152))
    clear hr hr0 hr1 hbn hop hbw
    unfold rul0
    go_wp2_with fail
    go_ret
    exact ⟨ret_bool HO.out.symm, HBW.out⟩
  | some r =>
    obtain ⟨s, rfl⟩ := hr1 r hr
    have HO := Lib.hid (opB_some (regs := regs) (sl := sl) (st := st) hr)
    clear hr0 hr1
    have HW := Lib.hid (show OpW w regs sl st o (.slice A o.ar.length c) r s w1.heap.size (w1.alloc (.cells (rulA r s) 152)) from ⟨hbn.alloc _, hop.alloc _, Blk.new _ _ _, hbw.alloc hbw.size _⟩)
    obtain ⟨g, hg⟩ : ∃ g, w1.heap.size = g := ⟨_, rfl⟩
    clear hbn hop hbw hr
    obtain ⟨b1, hb1⟩ : ∃ b, regB regs o.d r.d r.mb = b := ⟨_, rfl⟩
    obtain ⟨b2, hb2⟩ : ∃ b, regB regs o.a r.a false = b := ⟨_, rfl⟩
    obtain ⟨b3, hb3⟩ : ∃ b, regB regs o.b r.b false = b := ⟨_, rfl⟩
    obtain ⟨b4, hb4⟩ : ∃ b, imB r.im o.im = b := ⟨_, rfl⟩
    obtain ⟨b5, hb5⟩ : ∃ b, txB r.tx o.tx = b := ⟨_, rfl⟩
    have Q1 := Lib.hid (fun w => HRG.out o.d r.d r.mb w)
    have Q2 := Lib.hid (fun w => HRG.out o.a r.a false w)
    have Q3 := Lib.hid (fun w => HRG.out o.b r.b false w)
    have Q4 := Lib.hid (fun w => im_any r.im o.im w)
    have Q5 := Lib.hid (fun w h => tx_any r.tx o.tx w HS.out h)
    rw [hb1] at Q1 HO
    rw [hb2] at Q2 HO
    rw [hb3] at Q3 HO
    rw [hb4] at Q4 HO
    rw [hb5] at Q5 HO
    have HIM := enters_im r.im
    have HTX := enters_tx r.tx
    clear hb1 hb2 hb3 hb4 hb5 HS
    obtain ⟨b0, b1', b2', o0, o1, o2, o3, o4, o5, o6, r1, r2, r3, r4, r5, r6, r7⟩ := HW.out.cells
    rw [hg] at r1 r2 r3 r4 r5 r6 r7
    unfold rulV
    unfold rulA at b0 b1' b2' o0 o1 o2 o3 o4 o5 o6 r1 r2 r3 r4 r5 r6 r7
    go_wp2_with fail
    refine (Q1.out _).mono ?_
    rintro e w9 ⟨rfl, hb9⟩
    replace HW := Lib.hid (HW.out.next hb9)
    clear hb9 b0 b1' b2' o0 o1 o2 o3 o4 o5 o6 r1 r2 r3 r4 r5 r6 r7
    cases b1 with
    | false =>
      go_wp2_with fail
      go_ret
      exact ⟨ret_bool (by rw [HO.out]; simp), HW.out.be⟩
    | true =>
      obtain ⟨b0, b1', b2', o0, o1, o2, o3, o4, o5, o6, r1, r2, r3, r4, r5, r6, r7⟩ := HW.out.cells
      rw [hg] at r1 r2 r3 r4 r5 r6 r7
      go_wp2_with fail
      refine (Q2.out _).mono ?_
      rintro e w9 ⟨rfl, hb9⟩
      replace HW := Lib.hid (HW.out.next hb9)
      clear hb9 b0 b1' b2' o0 o1 o2 o3 o4 o5 o6 r1 r2 r3 r4 r5 r6 r7
      cases b2 with
      | false =>
        go_wp2_with fail
        go_ret
        exact ⟨ret_bool (by rw [HO.out]; simp), HW.out.be⟩
      | true =>
        obtain ⟨b0, b1', b2', o0, o1, o2, o3, o4, o5, o6, r1, r2, r3, r4, r5, r6, r7⟩ := HW.out.cells
        rw [hg] at r1 r2 r3 r4 r5 r6 r7
        go_wp2_with fail
        refine (Q3.out _).mono ?_
        rintro e w9 ⟨rfl, hb9⟩
        replace HW := Lib.hid (HW.out.next hb9)
        clear hb9 b0 b1' b2' o0 o1 o2 o3 o4 o5 o6 r1 r2 r3 r4 r5 r6 r7
        cases b3 with
        | false =>
          go_wp2_with fail
          go_ret
          exact ⟨ret_bool (by rw [HO.out]; simp), HW.out.be⟩
        | true =>
          obtain ⟨b0, b1', b2', o0, o1, o2, o3, o4, o5, o6, r1, r2, r3, r4, r5, r6, r7⟩ := HW.out.cells
          rw [hg] at r1 r2 r3 r4 r5 r6 r7
          go_wp2_with fail
          refine (Q4.out _).mono ?_
          rintro e w9 ⟨rfl, rfl⟩
          cases b4 with
          | false =>
            go_wp2_with fail
            go_ret
            exact ⟨ret_bool (by rw [HO.out]; simp), HW.out.be⟩
          | true =>
            go_wp2_with fail
            refine (Q5.out _ (HK.out.below HW.out.be)).mono ?_
            rintro e w9 ⟨rfl, hb9⟩
            replace HW := Lib.hid (HW.out.next hb9)
            clear hb9 b0 b1' b2' o0 o1 o2 o3 o4 o5 o6 r1 r2 r3 r4 r5 r6 r7
            cases b5 with
            | false =>
              go_wp2_with fail
              go_ret
              exact ⟨ret_bool (by rw [HO.out]; simp), HW.out.be⟩
            | true =>
              obtain ⟨b0, b1', b2', o0, o1, o2, o3, o4, o5, o6, r1, r2, r3, r4, r5, r6, r7⟩ := HW.out.cells
              rw [hg] at r1 r2 r3 r4 r5 r6 r7
              obtain ⟨ra, hra⟩ : ∃ b, r.ar = b := ⟨_, rfl⟩
              rw [hra] at r6 HO
              have HARGS := Lib.hid (containsI_any o.ar (.slice A o.ar.length c) 88 #[.pointer (some ⟨w.heap.size, 0, none⟩)] _ w9 enters_op1 (HA.out.below HW.out.be) (op1_any _ regs sl st w9 HW.out.bn).on)
              clear hra
              by_cases hbad : ra = false ∧ 0 < o.ar.length
              · obtain ⟨rfl, hpos⟩ := hbad
                go_wp2_with fail
                go_ret
                exact ⟨ret_bool (by rw [HO.out]; simp [hpos]), HW.out.be⟩
              · have hok : (ra || !decide (0 < o.ar.length)) = true := by
                  cases ra
                  · have : ¬ 0 < o.ar.length := fun h => hbad ⟨rfl, h⟩
                    simp [this]
                  · rfl
                rw [hok] at HO
                have hcut : ra = true ∨ (ra = false ∧ ¬ 0 < o.ar.length) := by
                  cases ra
                  · exact Or.inr ⟨rfl, fun h => hbad ⟨rfl, h⟩⟩
                  · exact Or.inl rfl
                clear hok hbad
                rcases hcut with rfl | ⟨rfl, hpos⟩
                all_goals
                  go_wp2_with fail
                  refine HARGS.out.mono ?_
                  rintro e w10 ⟨rfl, hb9⟩
                  replace HW := Lib.hid (HW.out.next hb9)
                  clear hb9 b0 b1' b2' o0 o1 o2 o3 o4 o5 o6 r1 r2 r3 r4 r5 r6 r7 HARGS
                  cases hany : o.ar.any (fun a => !regB regs a true false) with
                  | true =>
                    rw [hany] at HO
                    clear hany
                    go_wp2_with fail
                    go_ret
                    exact ⟨ret_bool (by rw [HO.out]; simp), HW.out.be⟩
                  | false =>
                    rw [hany] at HO
                    clear hany
                    have HO2 : Hid (opB regs sl st o = tailB sl st o) := by rw [Hid, HO.out]; simp
                    clear HO
                    obtain ⟨b0, b1', b2', o0, o1, o2, o3, o4, o5, o6, r1, r2, r3, r4, r5, r6, r7⟩ := HW.out.cells
                    rw [hg] at r1 r2 r3 r4 r5 r6 r7
                    by_cases k1 : o.k = 21
                    · have HT := Lib.hid (show tailB sl st o = decide (o.im < sl) by simp [tailB, k1])
                      by_cases hlt : o.im < sl
                      all_goals
                        go_wp2_with fail
                        go_ret
                        exact ⟨ret_bool (by rw [HO2.out, HT.out]; try simp [hlt]), HW.out.be⟩
                    · by_cases k2 : o.k = 23
                      · have HT := Lib.hid (show tailB sl st o = decide (o.im < st) by simp [tailB, k2])
                        by_cases hlt : o.im < st
                        all_goals
                          go_wp2_with fail
                          go_ret
                          exact ⟨ret_bool (by rw [HO2.out, HT.out]; try simp [hlt]), HW.out.be⟩
                      · by_cases k3 : o.k = 29
                        · have HBU := Lib.hid (fun w => built_any o.tx w)
                          obtain ⟨bn, an, hbv, ht⟩ : ∃ (bn : Int) (an : Bool), builtV o.tx = .tuple #[.int .i64 bn, .bool an, .bool (builtL o.tx).isSome] ∧ tailB sl st o = (((o.ar.length : Int) == bn) && (an || o.d == -1)) := by
                            unfold builtV
                            cases hbl : builtL o.tx with
                            | none => exact ⟨0, false, rfl, by simp [tailB, k3, hbl]⟩
                            | some q => exact ⟨q.1, q.2, rfl, by simp [tailB, k3, hbl]⟩
                          rw [hbv] at HBU
                          have HT := Lib.hid ht
                          clear ht hbv
                          go_wp2_with fail
                          refine (HBU.out _).mono ?_
                          rintro e w11 ⟨rfl, rfl⟩
                          by_cases e1 : (o.ar.length : Int) = bn
                          · cases an
                            · by_cases e2 : o.d = -1
                              all_goals
                                go_wp2_with fail
                                go_ret
                                exact ⟨ret_bool (by rw [HO2.out, HT.out]; try simp [e1, e2]), HW.out.be⟩
                            · go_wp2_with fail
                              go_ret
                              exact ⟨ret_bool (by rw [HO2.out, HT.out]; try simp [e1]), HW.out.be⟩
                          · go_wp2_with fail
                            go_ret
                            exact ⟨ret_bool (by rw [HO2.out, HT.out]; try simp [e1]), HW.out.be⟩
                        · have HT := Lib.hid (show tailB sl st o = true by simp [tailB, k1, k2, k3])
                          go_wp2_with fail
                          go_ret
                          exact ⟨ret_bool (by rw [HO2.out, HT.out]), HW.out.be⟩
end Go.Proofs.YtlmoblmkhicoeaaGreatDoor
