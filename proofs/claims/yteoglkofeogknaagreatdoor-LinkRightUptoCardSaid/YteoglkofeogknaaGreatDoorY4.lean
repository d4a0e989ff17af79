/- Walk: (*linker).put. Conditions: what the theorem states. -/
import Derived.Test.YteoglkofeogknaaGreatDoorY3
import Derived.Test.YteoglkofeogknaaGreatDoorFC
set_option linter.unusedVariables false
set_option linter.unusedSimpArgs false
namespace Go.Proofs.YteoglkofeogknaaGreatDoor
open Go.RowKit
set_option maxRecDepth 100000 in
set_option maxHeartbeats 4000000 in
theorem put_any (k bN bP : Nat) (z1 z2 z3 z4 vR vT vD : Value) (R : List Rng) (F : ByteArray → Option Value) (r : Rel) (bs : List UInt8) (B n : Nat) (fr0 : Int) (w : World)
    (hk : LK w k z1 z2 z3 z4 vR bN bP) (hN : MapV w bN n F) (hF : ∀ v, F r.nm = some v → ∃ x : Int, v = .int .i64 x ∧ 0 ≤ x ∧ x ≤ 16777216)
    (hR : RSlice w vR R) (hR0 : R ≠ []) (hfr : (R.getD 0 default).fr = fr0) (hfr0 : 0 ≤ fr0 ∧ fr0 ≤ 16777216)
    (hT : ∃ A n c, vT = .slice A n c) (hD : ∃ A n c, vD = .slice A n c)
    (hB : OwnB w B (if r.sec = 1 then vD else vT) bs) (hr : 0 ≤ r.at_ ∧ r.at_ + 4 ≤ (bs.length : Int) ∧ 0 ≤ r.add ∧ r.add ≤ 65535) (hbl : bs.length ≤ 1048576) (hnm : r.nm.size ≤ maxLen) :
    Calls Tryz.prog 17 #[.pointer (some ⟨k, 0, none⟩), .agg #[.int .i64 r.sec, .int .i64 r.at_, .int .i64 r.kd, .int .i64 r.add, .string r.nm], vT, vD] w fun e w' => e = .returned (.int .i64 (putR (valI (F r.nm)) r fr0 bs).1) ∧ Keeps (fun i => some i = (if r.sec = 1 then vD else vT).ownBlock) w w' ∧ ((putR (valI (F r.nm)) r fr0 bs).1 = 0 → OwnB w' B (if r.sec = 1 then vD else vT) (set4 bs r.at_.toNat (wB (putR (valI (F r.nm)) r fr0 bs).2))) := by
  obtain ⟨sec, at_, kd, add, nm⟩ := r
  dsimp only at hF hB hr hnm ⊢
  obtain ⟨a, rfl⟩ : ∃ a : Nat, at_ = (a : Int) := ⟨at_.toNat, by omega⟩
  obtain ⟨_, hr1, hr2, hr3⟩ := hr
  obtain ⟨AT, nT, cT, rfl⟩ := hT
  obtain ⟨AD, nD, cD, rfl⟩ := hD
  have HK := Lib.hid hk
  have HN := Lib.hid hN
  have HF := Lib.hid hF
  have HR := Lib.hid hR
  have HOB := Lib.hid hB
  obtain ⟨p, hp⟩ : ∃ p, w.heap.size = p := ⟨_, rfl⟩
  have HP := Lib.hid hp
  have HFR0 := Lib.hid hfr
  obtain ⟨res, hres⟩ : ∃ res, putR (valI (F nm)) ⟨sec, (a : Int), kd, add, nm⟩ fr0 bs = res := ⟨_, rfl⟩
  obtain ⟨vB, hvB⟩ : ∃ v, (if sec = 1 then Value.slice AD nD cD else Value.slice AT nT cT) = v := ⟨_, rfl⟩
  rw [hres, hvB]
  rw [hvB] at HOB
  have HRES := Lib.hid hres
  have HVB := Lib.hid hvB
  obtain ⟨FN, hFN⟩ : ∃ x, F nm = x := ⟨_, rfl⟩
  have HFN := Lib.hid hFN
  clear hk hN hF hR hB hfr hres hvB hFN
  go_enter Tryz.func17, Tryz.ntmps17
  go_wp2_with fail
  obtain ⟨W4, hW4⟩ : ∃ W4, w.alloc (.cells #[.int .i64 sec, .int .i64 (a : Int), .int .i64 kd, .int .i64 add, .string nm] 51) = W4 := ⟨_, rfl⟩
  have hb4 : Below w.heap.size w W4 := by rw [← hW4]; exact (Below.refl _ _).alloc (Nat.le_refl _) _
  have HPB : Hid (Blk W4 p 51 #[.int .i64 sec, .int .i64 (a : Int), .int .i64 kd, .int .i64 add, .string nm]) := by rw [← hW4, ← hp]; exact Blk.new w _ _
  rw [hW4]
  have HB4 := Lib.hid hb4
  have HK4 := Lib.hid (Blk.below HK.out hb4 (Blk.lt HK.out))
  have hlk := (HN.out.below hb4.drew).look2 (z := .int .i64 0) Tryz.underlying62 (by simp [go_sem]) nm hnm
  have k5 : W4.cell? ⟨k, 5, none⟩ = some (.map (some bN)) := by rw [Blk.cell HK4.out]; rfl
  have p4 : W4.cell? ⟨p, 4, none⟩ = some (.string nm) := by rw [HPB.out.cell]; rfl
  clear hW4 hb4 hp
  rw [HFN.out] at hlk
  cases FN with
  | none =>
    have hlk : (Instr.lookup 62 (.map (some bN)) (.string nm) true).run Tryz.prog W4.drew = .ok (.tuple #[.int .i64 0, .bool false]) W4.drew := hlk
    have HR0 : Hid (res = (60, 0)) := by show _ = _; rw [← HRES.out, HFN.out]; rfl
    go_region
    go_wp2_with fail
    go_ret
    refine ⟨by rw [HR0.out]; rfl, keeps_of_below _ HB4.out.drew, fun h => ?_⟩
    rw [HR0.out] at h
    exact absurd h (by decide)
  | some v =>
    obtain ⟨x, rfl, hx0, hx1⟩ := HF.out v HFN.out
    have hlk : (Instr.lookup 62 (.map (some bN)) (.string nm) true).run Tryz.prog W4.drew = .ok (.tuple #[.int .i64 x, .bool true]) W4.drew := hlk
    go_region
    obtain ⟨W5, hW5⟩ : ∃ W5, W4.drew = W5 := ⟨_, rfl⟩
    rw [hW5]
    have HB5 : Hid (Below w.heap.size w W5) := by rw [← hW5]; exact HB4.out.drew
    have HPB5 : Hid (Blk W5 p 51 #[.int .i64 sec, .int .i64 (a : Int), .int .i64 kd, .int .i64 add, .string nm]) := by rw [← hW5]; exact HPB.out.drew
    have HK5 := Lib.hid (Blk.below HK.out HB5.out (Blk.lt HK.out))
    have HOB5 : Hid (OwnB W5 B vB bs) := Lib.hid (ownsRow_keeps HOB.out (keeps_of_below (fun _ => False) HB5.out) (fun _ _ => id))
    have c0 : W5.cell? ⟨p, 0, none⟩ = some (.int .i64 sec) := by rw [HPB5.out.cell]; rfl
    have c1 : W5.cell? ⟨p, 1, none⟩ = some (.int .i64 (a : Int)) := by rw [HPB5.out.cell]; rfl
    have c2 : W5.cell? ⟨p, 2, none⟩ = some (.int .i64 kd) := by rw [HPB5.out.cell]; rfl
    have c3 : W5.cell? ⟨p, 3, none⟩ = some (.int .i64 add) := by rw [HPB5.out.cell]; rfl
    obtain ⟨y, hy⟩ : ∃ y : Nat, x + add = (y : Int) := ⟨(x + add).toNat, by omega⟩
    have e1 : IntKind.i64.wrap (x + add) = (y : Int) := by rw [IntWalk.i64_in _ (by omega)]; exact hy
    have hy2 : y ≤ 16842751 := by omega
    have e2 : IntKind.u32.wrap (y : Int) = (y : Int) := by rw [IntKind.wrap_u32]; omega
    have hR1 : putR (valI (some (.int .i64 x))) ⟨sec, (a : Int), kd, add, nm⟩ fr0 bs = res := by rw [← HFN.out]; exact HRES.out
    have HR1 : Hid ((match putW kd (y : Int) fr0 (a : Int) (w4 bs a).toNat with | none => (61, 0) | some v => (0, v)) = res) := by
      show _ = _
      rw [← hR1, ← hy]
      rfl
    have e3 : IntKind.i64.wrap ((a : Int) + 4) = ((a + 4 : Nat) : Int) := by rw [IntWalk.i64_in _ (by omega)]; omega
    obtain ⟨g, cap, rfl⟩ : ∃ g cap, vB = .slice (some ⟨g, 0, none⟩) bs.length cap := by
      have h := HOB.out
      unfold OwnB at h
      cases hb : bs with
      | nil => rw [hb] at hr1; simp at hr1; omega
      | cons b bs' =>
        rw [hb] at h
        exact row_shape2 h
    obtain ⟨hg1, hg2, hg3, hg4, hg5, _⟩ := own_parts HOB5.out
    obtain ⟨N, hN⟩ : ∃ N, bs.length = N := ⟨_, rfl⟩
    have HNN := Lib.hid hN
    rw [hN] at hr1 hbl hg3 HOB HOB5 HVB
    unfold maxLen at hg4
    clear hlk k5 p4 hR1 hW5 hN
    have e4 : (a : Int) + 4 ≤ (cap : Int) := by omega
    have b1 : (0 : Int) ≤ (a : Int) := by omega
    have b2 : (a : Int) ≤ ((a + 4 : Nat) : Int) := by omega
    have b3 : ((a + 4 : Nat) : Int) ≤ (cap : Int) := by omega
    go_upto_if 36 with fail
    go_cut [11] from 37 to 37 (fun b W => b = .slice (some ⟨g, 0, none⟩) N cap ∧ W = W5)
    case first =>
      by_cases hs : sec = 1
      · have hv := HVB.out
        rw [if_pos hs] at hv
        injection hv with hv1 hv2 hv3
        subst hv1
        subst hv2
        subst hv3
        subst hs
        go_wp2_with fail
        go_meet
        case rel => exact ⟨rfl, rfl⟩
      · have hv := HVB.out
        rw [if_neg hs] at hv
        injection hv with hv1 hv2 hv3
        subst hv1
        subst hv2
        subst hv3
        go_wp2_with fail
        go_meet
        case rel => exact ⟨rfl, rfl⟩
    case rest =>
      obtain ⟨rfl, rfl⟩ := hcut
      by_cases hkd : kd = 1
      · subst hkd
        have HR2 : Hid (res = (0, y)) := by show _ = _; rw [← HR1.out]; rfl
        go_wp2_with fail
        refine (wbytes_any y (by omega) wc).mono ?_
        rintro e w6 ⟨u, rfl, hu, hb6⟩
        obtain ⟨w7, hcp, ho7, hk7⟩ := copy4 (h := ownsRow_keeps HOB5.out (keeps_of_below (fun _ => False) hb6) (fun _ _ => id)) (k := a) (by rw [HNN.out]; omega) hu rfl
        have e9 : a + 4 - a = 4 := by omega
        have HKE : Hid (Keeps (fun i => some i = some g) w w7) := Lib.hid (((keeps_of_below (fun i => some i = some g) HB5.out).trans (keeps_of_below (fun i => some i = some g) hb6) (fun _ _ h => h)).trans hk7 (fun i _ h => by rw [h]))
        have HO7 := Lib.hid ho7
        clear hb6 hu ho7 hk7
        go_wp2_with fail
        go_ret
        refine ⟨by rw [HR2.out]; rfl, HKE.out, fun _ => ?_⟩
        rw [HR2.out, HNN.out]
        exact HO7.out
      · obtain ⟨v, hv, hv2⟩ := w4_lt bs a
        have hcell : ∀ j, j < 4 → wc.cell? ⟨g, a + j, none⟩ = some (.int .u8 ((bs.getD (a + j) 0).toNat : Int)) := fun j hj => by
          have hj2 : a + j < bs.length := by rw [HNN.out]; omega
          refine hg5 (a + j) _ ?_
          rw [List.getElem?_map, List.getElem?_eq_getElem hj2]
          simp [byv, List.getD, hj2]
        have HFR := Lib.hid (from_any g a (cap - a) _ _ _ _ wc (hcell 0 (by omega)) (hcell 1 (by omega)) (hcell 2 (by omega)) (hcell 3 (by omega)) (byv_le _) (byv_le _) (byv_le _) (byv_le _))
        have hfw : fromW ((bs.getD (a + 0) 0).toNat : Int) ((bs.getD (a + 1) 0).toNat : Int) ((bs.getD (a + 2) 0).toNat : Int) ((bs.getD (a + 3) 0).toNat : Int) = (v : Int) := hv
        rw [hfw] at HFR
        rw [hv, Int.toNat_natCast] at HR1
        clear hcell hfw hv
        go_wp2_with fail
        refine HFR.out.mono ?_
        rintro e w6 ⟨rfl, hb6⟩
        have HB6 := Lib.hid hb6
        clear hb6
        go_wp2_with fail
        by_cases her : (dcA v).2.2.2.2.2 = 0
        · obtain ⟨o, d, a', b, i, hq, ho, hd, ha', hb'⟩ := dc_ok hv2 her
          refine (dec_any v hv2 _).mono ?_
          rintro e w7 ⟨rfl, hb7⟩
          have HB7 := Lib.hid (HB6.out.trans (hb7.mono HB6.out.size))
          rw [hq]
          clear hb7
          have HQ := Lib.hid hq
          unfold dcV
          dsimp only
          clear hq her
          go_upto_region 14 with fail
          obtain ⟨s, hs⟩ : ∃ s, w7.heap.size = s := ⟨_, rfl⟩
          obtain ⟨W8, hW8⟩ : ∃ W8, w7.alloc (.cells #[.int .i64 o, .int .i64 d, .int .i64 a', .int .i64 b, .int .i64 i] 94) = W8 := ⟨_, rfl⟩
          have HY : Hid (Blk W8 s 94 #[.int .i64 o, .int .i64 d, .int .i64 a', .int .i64 b, .int .i64 i]) := by rw [← hW8, ← hs]; exact Blk.new w7 _ _
          have HB8 : Hid (Below wc.heap.size wc W8) := by rw [← hW8]; exact HB7.out.alloc HB7.out.size _
          rw [hW8, hs]
          have HS : Hid (wc.heap.size ≤ s) := by show _ ≤ _; rw [← hs]; exact HB7.out.size
          clear hW8 hs
          have c1 : W8.cell? ⟨p, 1, none⟩ = some (.int .i64 (a : Int)) := by rw [(HPB5.out.below HB8.out HPB5.out.lt).cell]; rfl
          have c2 : W8.cell? ⟨p, 2, none⟩ = some (.int .i64 kd) := by rw [(HPB5.out.below HB8.out HPB5.out.lt).cell]; rfl
          have d4 : W8.cell? ⟨s, 4, none⟩ = some (.int .i64 i) := by rw [HY.out.cell]; rfl
          have f4 := HY.out.frozen 4
          have HTAIL := True.intro
          by_cases k2 : kd = 2
          · have k2' : (kd == 2) = true := by simpa using k2
            obtain ⟨imm, himm⟩ : ∃ x : Int, (y : Int) / 65536 = x := ⟨_, rfl⟩
            have HY9 : Hid (Blk (W8.setCell ⟨s, 4, none⟩ (.int .i64 ((y : Int) / 65536))) s 94 #[.int .i64 o, .int .i64 d, .int .i64 a', .int .i64 b, .int .i64 imm]) := by
              rw [himm]
              show Blk _ _ _ _
              simpa using HY.out.set_ 4 (.int .i64 imm)
            have HB9 : Hid (Below wc.heap.size wc (W8.setCell ⟨s, 4, none⟩ (.int .i64 ((y : Int) / 65536)))) := HB8.out.setCell HS.out _
            have y0 : (W8.setCell ⟨s, 4, none⟩ (.int .i64 ((y : Int) / 65536))).cell? ⟨s, 0, none⟩ = some (.int .i64 o) := by rw [HY9.out.cell]; rfl
            have y1 : (W8.setCell ⟨s, 4, none⟩ (.int .i64 ((y : Int) / 65536))).cell? ⟨s, 1, none⟩ = some (.int .i64 d) := by rw [HY9.out.cell]; rfl
            have y2 : (W8.setCell ⟨s, 4, none⟩ (.int .i64 ((y : Int) / 65536))).cell? ⟨s, 2, none⟩ = some (.int .i64 a') := by rw [HY9.out.cell]; rfl
            have y3 : (W8.setCell ⟨s, 4, none⟩ (.int .i64 ((y : Int) / 65536))).cell? ⟨s, 3, none⟩ = some (.int .i64 b) := by rw [HY9.out.cell]; rfl
            have y4 : (W8.setCell ⟨s, 4, none⟩ (.int .i64 ((y : Int) / 65536))).cell? ⟨s, 4, none⟩ = some (.int .i64 imm) := by rw [HY9.out.cell]; rfl
            have hpi : putI kd (y : Int) fr0 (a : Int) = some imm := by
              rw [← himm]
              unfold putI; rw [if_pos k2]
            have hpw : putW kd (y : Int) fr0 (a : Int) v = putE (dcA v) imm := by
              unfold putW
              rw [if_neg hkd, hpi, HQ.out, if_pos rfl]
            rw [HQ.out] at hpw
            by_cases hc : chkA (o : Int) (d : Int) (a' : Int) (b : Int) imm = true
            · obtain ⟨v2, hv3, hlt⟩ := encW_nat (FM o).2.2.2.1 (FM_bits o) o d a' b imm ho hd ha' hb'
              have HR2 : Hid (res = (0, v2)) := by
                show _ = _
                rw [← HR1.out, hpw]
                unfold putE
                dsimp only
                rw [if_pos hc, Int.toNat_natCast, Int.toNat_natCast, Int.toNat_natCast, Int.toNat_natCast, hv3, Int.toNat_natCast]
              have HE := Lib.hid (fun W => encode_ok o d a' b imm W hc ho hd ha' hb')
              rw [hv3] at HE
              clear hpi hpw hc hv3 himm
              go_wp2_with fail
              refine (HE.out _).mono ?_
              rintro e w8 ⟨rfl, hb8⟩
              have HB10 := Lib.hid (HB9.out.trans (hb8.mono HB9.out.size))
              clear hb8
              go_wp2_with fail
              refine (wbytes_any v2 hlt _).mono ?_
              rintro e w9 ⟨u, rfl, hu, hb9⟩
              have hb10 := HB10.out.trans (hb9.mono HB10.out.size)
              obtain ⟨w10, hcp, ho10, hk10⟩ := copy4 (h := ownsRow_keeps HOB5.out (keeps_of_below (fun _ => False) hb10) (fun _ _ => id)) (k := a) (by rw [HNN.out]; omega) hu rfl
              have e9 : a + 4 - a = 4 := by omega
              have HKE : Hid (Keeps (fun i => some i = some g) w w10) := Lib.hid (((keeps_of_below (fun i => some i = some g) HB5.out).trans (keeps_of_below (fun i => some i = some g) hb10) (fun _ _ h => h)).trans hk10 (fun i _ h => by rw [h]))
              have HO10 := Lib.hid ho10
              clear hb9 hb10 hu ho10 hk10
              go_wp2_with fail
              go_ret
              refine ⟨by rw [HR2.out]; rfl, HKE.out, fun _ => ?_⟩
              rw [HR2.out, HNN.out]
              exact HO10.out
            · have hc : chkA (o : Int) (d : Int) (a' : Int) (b : Int) imm = false := by simpa using hc
              have HR2 : Hid (res = (61, 0)) := by
                show _ = _
                rw [← HR1.out, hpw]
                unfold putE
                dsimp only
                rw [if_neg (by rw [hc]; decide)]
              have HE := Lib.hid (fun W => encode_bad (o : Int) (d : Int) (a' : Int) (b : Int) imm W hc)
              clear hpi hpw hc himm
              go_wp2_with fail
              refine (HE.out _).mono ?_
              rintro e w8 ⟨rfl, hb8⟩
              have HB10 := Lib.hid (HB9.out.trans (hb8.mono HB9.out.size))
              clear hb8
              go_wp2_with fail
              go_ret
              refine ⟨by rw [HR2.out]; rfl, keeps_of_below _ (HB5.out.trans (HB10.out.mono HB5.out.size)), fun h => ?_⟩
              rw [HR2.out] at h
              exact absurd h (by decide)
          · have k2' : (kd == 2) = false := by simpa using k2
            by_cases k3 : kd = 3
            · have k3' : (kd == 3) = true := by simpa using k3
              have e5 : bits .and .i64 (y : Int) 65535 = (y : Int) % 65536 := by
                have h := mask_i64 y 16 (by omega) (by omega)
                have h2 : bits .and .i64 (y : Int) 65535 = ((y % 65536 : Nat) : Int) := h
                rw [h2]
                omega
              obtain ⟨imm, himm⟩ : ∃ x : Int, (y : Int) % 65536 = x := ⟨_, rfl⟩
              have HY9 : Hid (Blk (W8.setCell ⟨s, 4, none⟩ (.int .i64 ((y : Int) % 65536))) s 94 #[.int .i64 o, .int .i64 d, .int .i64 a', .int .i64 b, .int .i64 imm]) := by
                rw [himm]
                show Blk _ _ _ _
                simpa using HY.out.set_ 4 (.int .i64 imm)
              have HB9 : Hid (Below wc.heap.size wc (W8.setCell ⟨s, 4, none⟩ (.int .i64 ((y : Int) % 65536)))) := HB8.out.setCell HS.out _
              have y0 : (W8.setCell ⟨s, 4, none⟩ (.int .i64 ((y : Int) % 65536))).cell? ⟨s, 0, none⟩ = some (.int .i64 o) := by rw [HY9.out.cell]; rfl
              have y1 : (W8.setCell ⟨s, 4, none⟩ (.int .i64 ((y : Int) % 65536))).cell? ⟨s, 1, none⟩ = some (.int .i64 d) := by rw [HY9.out.cell]; rfl
              have y2 : (W8.setCell ⟨s, 4, none⟩ (.int .i64 ((y : Int) % 65536))).cell? ⟨s, 2, none⟩ = some (.int .i64 a') := by rw [HY9.out.cell]; rfl
              have y3 : (W8.setCell ⟨s, 4, none⟩ (.int .i64 ((y : Int) % 65536))).cell? ⟨s, 3, none⟩ = some (.int .i64 b) := by rw [HY9.out.cell]; rfl
              have y4 : (W8.setCell ⟨s, 4, none⟩ (.int .i64 ((y : Int) % 65536))).cell? ⟨s, 4, none⟩ = some (.int .i64 imm) := by rw [HY9.out.cell]; rfl
              have hpi : putI kd (y : Int) fr0 (a : Int) = some imm := by
                rw [← himm]
                unfold putI; rw [if_neg k2, if_pos k3]
              have hpw : putW kd (y : Int) fr0 (a : Int) v = putE (dcA v) imm := by
                unfold putW
                rw [if_neg hkd, hpi, HQ.out, if_pos rfl]
              rw [HQ.out] at hpw
              by_cases hc : chkA (o : Int) (d : Int) (a' : Int) (b : Int) imm = true
              · obtain ⟨v2, hv3, hlt⟩ := encW_nat (FM o).2.2.2.1 (FM_bits o) o d a' b imm ho hd ha' hb'
                have HR2 : Hid (res = (0, v2)) := by
                  show _ = _
                  rw [← HR1.out, hpw]
                  unfold putE
                  dsimp only
                  rw [if_pos hc, Int.toNat_natCast, Int.toNat_natCast, Int.toNat_natCast, Int.toNat_natCast, hv3, Int.toNat_natCast]
                have HE := Lib.hid (fun W => encode_ok o d a' b imm W hc ho hd ha' hb')
                rw [hv3] at HE
                clear hpi hpw hc hv3 himm
                go_wp2_with fail
                refine (HE.out _).mono ?_
                rintro e w8 ⟨rfl, hb8⟩
                have HB10 := Lib.hid (HB9.out.trans (hb8.mono HB9.out.size))
                clear hb8
                go_wp2_with fail
                refine (wbytes_any v2 hlt _).mono ?_
                rintro e w9 ⟨u, rfl, hu, hb9⟩
                have hb10 := HB10.out.trans (hb9.mono HB10.out.size)
                obtain ⟨w10, hcp, ho10, hk10⟩ := copy4 (h := ownsRow_keeps HOB5.out (keeps_of_below (fun _ => False) hb10) (fun _ _ => id)) (k := a) (by rw [HNN.out]; omega) hu rfl
                have e9 : a + 4 - a = 4 := by omega
                have HKE : Hid (Keeps (fun i => some i = some g) w w10) := Lib.hid (((keeps_of_below (fun i => some i = some g) HB5.out).trans (keeps_of_below (fun i => some i = some g) hb10) (fun _ _ h => h)).trans hk10 (fun i _ h => by rw [h]))
                have HO10 := Lib.hid ho10
                clear hb9 hb10 hu ho10 hk10
                go_wp2_with fail
                go_ret
                refine ⟨by rw [HR2.out]; rfl, HKE.out, fun _ => ?_⟩
                rw [HR2.out, HNN.out]
                exact HO10.out
              · have hc : chkA (o : Int) (d : Int) (a' : Int) (b : Int) imm = false := by simpa using hc
                have HR2 : Hid (res = (61, 0)) := by
                  show _ = _
                  rw [← HR1.out, hpw]
                  unfold putE
                  dsimp only
                  rw [if_neg (by rw [hc]; decide)]
                have HE := Lib.hid (fun W => encode_bad (o : Int) (d : Int) (a' : Int) (b : Int) imm W hc)
                clear hpi hpw hc himm
                go_wp2_with fail
                refine (HE.out _).mono ?_
                rintro e w8 ⟨rfl, hb8⟩
                have HB10 := Lib.hid (HB9.out.trans (hb8.mono HB9.out.size))
                clear hb8
                go_wp2_with fail
                go_ret
                refine ⟨by rw [HR2.out]; rfl, keeps_of_below _ (HB5.out.trans (HB10.out.mono HB5.out.size)), fun h => ?_⟩
                rw [HR2.out] at h
                exact absurd h (by decide)
            · have k3' : (kd == 3) = false := by simpa using k3
              obtain ⟨AR, cR, hvR, hR1, hR2, _, hR4⟩ := HR.out
              obtain ⟨gR, oR, rfl, hgR, hcR⟩ := hR4 hR0
              have hRl : 0 < R.length := by cases R with | nil => exact absurd rfl hR0 | cons _ _ => simp
              have hfv : (R.getD 0 default) = R[0] := by simp [List.getD, hRl]
              have r1 := (hcR.five hRl).2.1
              rw [← hfv, HFR0.out] at r1
              have hbc : Below w.heap.size w W8 := HB5.out.trans (HB8.out.mono HB5.out.size)
              have r2 : W8.cell? ⟨gR, oR + 0 * 5 + 1, none⟩ = some (.int .i64 fr0) := (hbc.cell (p := ⟨gR, oR + 0 * 5 + 1, none⟩) hgR).trans r1
              have r2' : W8.cell? ⟨gR, oR + 1, none⟩ = some (.int .i64 fr0) := by simpa using r2
              have r3 : W8.cell? ⟨k, 4, none⟩ = some (.slice (some ⟨gR, oR, none⟩) R.length cR) := by rw [(Blk.below HK5.out HB8.out (Blk.lt HK5.out)).cell, ← hvR]; rfl
              obtain ⟨NR, hNR⟩ : ∃ n, R.length = n := ⟨_, rfl⟩
              rw [hNR] at r3 hRl
              have f1 : IntKind.i64.wrap (fr0 + (a : Int)) = fr0 + (a : Int) := IntWalk.i64_in _ (by omega)
              have f2 : IntKind.i64.wrap (fr0 + (a : Int) + 4) = fr0 + (a : Int) + 4 := IntWalk.i64_in _ (by omega)
              obtain ⟨far, hfar⟩ : ∃ z, (y : Int) - (fr0 + (a : Int) + 4) = z := ⟨_, rfl⟩
              have f3 : IntKind.i64.wrap ((y : Int) - (fr0 + (a : Int) + 4)) = far := by rw [hfar]; exact IntWalk.i64_in _ (by omega)
              have f5 : (0 : Int) < (NR : Int) := by omega
              clear hR1 hR2 hR4 hcR hfv r1 hbc r2 hNR
              go_upto_region 17 with fail
              go_region
              obtain ⟨W9, hW9⟩ : ∃ W9, W8.drew = W9 := ⟨_, rfl⟩
              rw [hW9]
              have HYd : Hid (Blk W9 s 94 #[.int .i64 o, .int .i64 d, .int .i64 a', .int .i64 b, .int .i64 i]) := by rw [← hW9]; exact HY.out.drew
              have HB8d : Hid (Below wc.heap.size wc W9) := by rw [← hW9]; exact HB8.out.drew
              have d4 : W9.cell? ⟨s, 4, none⟩ = some (.int .i64 i) := by rw [HYd.out.cell]; rfl
              have f4 := HYd.out.frozen 4
              clear hW9
              by_cases hm4 : far.tmod 4 = 0
              · have f6 : (far.tmod 4 != 0) = false := by simpa using hm4
                obtain ⟨imm, himm⟩ : ∃ x : Int, far.tdiv 4 = x := ⟨_, rfl⟩
                have HY9 : Hid (Blk (W9.setCell ⟨s, 4, none⟩ (.int .i64 (far.tdiv 4))) s 94 #[.int .i64 o, .int .i64 d, .int .i64 a', .int .i64 b, .int .i64 imm]) := by
                  rw [himm]
                  show Blk _ _ _ _
                  simpa using HYd.out.set_ 4 (.int .i64 imm)
                have HB9 : Hid (Below wc.heap.size wc (W9.setCell ⟨s, 4, none⟩ (.int .i64 (far.tdiv 4)))) := HB8d.out.setCell HS.out _
                have y0 : (W9.setCell ⟨s, 4, none⟩ (.int .i64 (far.tdiv 4))).cell? ⟨s, 0, none⟩ = some (.int .i64 o) := by rw [HY9.out.cell]; rfl
                have y1 : (W9.setCell ⟨s, 4, none⟩ (.int .i64 (far.tdiv 4))).cell? ⟨s, 1, none⟩ = some (.int .i64 d) := by rw [HY9.out.cell]; rfl
                have y2 : (W9.setCell ⟨s, 4, none⟩ (.int .i64 (far.tdiv 4))).cell? ⟨s, 2, none⟩ = some (.int .i64 a') := by rw [HY9.out.cell]; rfl
                have y3 : (W9.setCell ⟨s, 4, none⟩ (.int .i64 (far.tdiv 4))).cell? ⟨s, 3, none⟩ = some (.int .i64 b) := by rw [HY9.out.cell]; rfl
                have y4 : (W9.setCell ⟨s, 4, none⟩ (.int .i64 (far.tdiv 4))).cell? ⟨s, 4, none⟩ = some (.int .i64 imm) := by rw [HY9.out.cell]; rfl
                have hpi : putI kd (y : Int) fr0 (a : Int) = some imm := by
                  rw [← himm]
                  unfold putI; rw [if_neg k2, if_neg k3, hfar, if_pos hm4]
                have hpw : putW kd (y : Int) fr0 (a : Int) v = putE (dcA v) imm := by
                  unfold putW
                  rw [if_neg hkd, hpi, HQ.out, if_pos rfl]
                rw [HQ.out] at hpw
                by_cases hc : chkA (o : Int) (d : Int) (a' : Int) (b : Int) imm = true
                · obtain ⟨v2, hv3, hlt⟩ := encW_nat (FM o).2.2.2.1 (FM_bits o) o d a' b imm ho hd ha' hb'
                  have HR2 : Hid (res = (0, v2)) := by
                    show _ = _
                    rw [← HR1.out, hpw]
                    unfold putE
                    dsimp only
                    rw [if_pos hc, Int.toNat_natCast, Int.toNat_natCast, Int.toNat_natCast, Int.toNat_natCast, hv3, Int.toNat_natCast]
                  have HE := Lib.hid (fun W => encode_ok o d a' b imm W hc ho hd ha' hb')
                  rw [hv3] at HE
                  clear hpi hpw hc hv3 himm
                  go_wp2_with fail
                  refine (HE.out _).mono ?_
                  rintro e w8 ⟨rfl, hb8⟩
                  have HB10 := Lib.hid (HB9.out.trans (hb8.mono HB9.out.size))
                  clear hb8
                  go_wp2_with fail
                  refine (wbytes_any v2 hlt _).mono ?_
                  rintro e w9 ⟨u, rfl, hu, hb9⟩
                  have hb10 := HB10.out.trans (hb9.mono HB10.out.size)
                  obtain ⟨w10, hcp, ho10, hk10⟩ := copy4 (h := ownsRow_keeps HOB5.out (keeps_of_below (fun _ => False) hb10) (fun _ _ => id)) (k := a) (by rw [HNN.out]; omega) hu rfl
                  have e9 : a + 4 - a = 4 := by omega
                  have HKE : Hid (Keeps (fun i => some i = some g) w w10) := Lib.hid (((keeps_of_below (fun i => some i = some g) HB5.out).trans (keeps_of_below (fun i => some i = some g) hb10) (fun _ _ h => h)).trans hk10 (fun i _ h => by rw [h]))
                  have HO10 := Lib.hid ho10
                  clear hb9 hb10 hu ho10 hk10
                  go_wp2_with fail
                  go_ret
                  refine ⟨by rw [HR2.out]; rfl, HKE.out, fun _ => ?_⟩
                  rw [HR2.out, HNN.out]
                  exact HO10.out
                · have hc : chkA (o : Int) (d : Int) (a' : Int) (b : Int) imm = false := by simpa using hc
                  have HR2 : Hid (res = (61, 0)) := by
                    show _ = _
                    rw [← HR1.out, hpw]
                    unfold putE
                    dsimp only
                    rw [if_neg (by rw [hc]; decide)]
                  have HE := Lib.hid (fun W => encode_bad (o : Int) (d : Int) (a' : Int) (b : Int) imm W hc)
                  clear hpi hpw hc himm
                  go_wp2_with fail
                  refine (HE.out _).mono ?_
                  rintro e w8 ⟨rfl, hb8⟩
                  have HB10 := Lib.hid (HB9.out.trans (hb8.mono HB9.out.size))
                  clear hb8
                  go_wp2_with fail
                  go_ret
                  refine ⟨by rw [HR2.out]; rfl, keeps_of_below _ (HB5.out.trans (HB10.out.mono HB5.out.size)), fun h => ?_⟩
                  rw [HR2.out] at h
                  exact absurd h (by decide)
              · have f6 : (far.tmod 4 != 0) = true := by simpa using hm4
                have HR2 : Hid (res = (61, 0)) := by
                  show _ = _
                  rw [← HR1.out]
                  have hpi : putI kd (y : Int) fr0 (a : Int) = none := by unfold putI; rw [if_neg k2, if_neg k3, hfar, if_neg hm4]
                  unfold putW
                  rw [if_neg hkd, hpi, HQ.out, if_pos rfl]
                go_wp2_with fail
                go_ret
                refine ⟨by rw [HR2.out]; rfl, keeps_of_below _ (HB5.out.trans (HB8d.out.mono HB5.out.size)), fun h => ?_⟩
                rw [HR2.out] at h
                exact absurd h (by decide)
        · obtain ⟨⟨o, d, a', b, i, er⟩, hq⟩ : ∃ q, dcA v = q := ⟨_, rfl⟩
          rw [hq] at her
          have her2 : (er != 0) = true := by simpa using her
          have HR2 : Hid (res = (61, 0)) := by
            show _ = _
            rw [← HR1.out]
            unfold putW
            rw [if_neg hkd, hq]
            simp only [if_neg her]
          refine (dec_any v hv2 _).mono ?_
          rintro e w7 ⟨rfl, hb7⟩
          have HB7 := Lib.hid (HB6.out.trans (hb7.mono HB6.out.size))
          rw [hq]
          clear hb7 hq her
          unfold dcV
          dsimp only
          go_wp2_with fail
          go_ret
          refine ⟨by rw [HR2.out]; rfl, keeps_of_below _ ((HB5.out.trans (HB7.out.mono HB5.out.size)).alloc (Nat.le_trans HB5.out.size HB7.out.size) _), fun h => ?_⟩
          rw [HR2.out] at h
          exact absurd h (by decide)
end Go.Proofs.YteoglkofeogknaaGreatDoor
