/- Walk: the law TwiceWarns. Conditions: the function lies, and the tables. -/
import Derived.Test.YtlmoblmkhicoeaaGreatDoorN4
import Derived.BigQuiet
set_option linter.unusedVariables false
set_option linter.unusedSimpArgs false
namespace Go.Proofs.YtlmoblmkhicoeaaGreatDoor
open Go.RowKit
/-- What the laws hold between their calls. -/
structure LwW (w : World) (F : Fn) (sv bv : Value) (W : World) : Prop where
  fi : FnIn W F sv bv
  tz : TzAt W
  bx : Blk W w.heap.size 25 #[.string F.nm, .int .i64 F.ps, .int .i64 F.rs, sv, bv]
  be : Below w.heap.size w W
theorem LwW.next {w W W' : World} {F : Fn} {sv bv : Value} (h : LwW w F sv bv W) (hb : Below W.heap.size W W') : LwW w F sv bv W' :=
  ⟨h.fi.below hb, h.tz.below hb, h.bx.below hb h.bx.lt, h.be.trans (below_of_le hb h.be.size)⟩
theorem LwW.begin {w : World} {F : Fn} {sv bv : Value} (h : FnIn w F sv bv) (ht : TzAt w) : LwW w F sv bv (w.alloc (.cells #[.string F.nm, .int .i64 F.ps, .int .i64 F.rs, sv, bv] 25)) :=
  ⟨h.below (below1 _ _), ht.below (below1 _ _), Blk.new _ _ _, below1 _ _⟩
def SpOk (F : Fn) (l : List Sp) : Prop := (∀ i (h : i < l.length), (l[i]).b < F.bl.length ∧ (l[i]).o ≤ (blk F (l[i]).b).os.length ∧ 0 ≤ (l[i]).r ∧ (l[i]).r < F.rs) ∧ ∀ i (h : i + 1 < l.length), ltS (l[i]'(by omega)) l[i + 1]
theorem OwnS.belowS {W W' : World} {B : Nat} {v : Value} {l : List Sp} (h : OwnS W B v l) (hb : Below W.heap.size W W') : OwnS W' B v l := ownsRow_keeps h (keeps_of_below (fun _ => False) hb) (fun _ _ => id)
set_option maxRecDepth 100000 in
set_option maxHeartbeats 16000000 in
theorem warns_any (F : Fn) (sv bv : Value) (w : World) (h : FnIn w F sv bv) (ht : TzAt w) :
    Calls Tryz.prog 3 #[fnv F sv bv] w fun e w' => e = .returned (.bool true) ∧ Below w.heap.size w w' := by
  obtain ⟨A, c, rfl, h1, h2⟩ := h.bl.form
  obtain ⟨As, cs, rfl, -, -⟩ := RowOf.form h.sl
  unfold maxLen at h2
  have H0 := Lib.hid (LwW.begin h ht)
  have HWK := Lib.hid (works_any _ H0.out.fi.ke H0.out.tz)
  have HE := Lib.hid (show fnB F = false → errV F = .int .i64 180 from fun hb => by rw [errV, hb]; rfl)
  unfold fnv
  clear h ht
  go_enter Tryz.func3, Tryz.ntmps3
  go_wp2_with fail
  refine HWK.out.mono ?_
  rintro e w1 ⟨rfl, hb1⟩
  have H1 := Lib.hid (H0.out.next hb1)
  obtain ⟨x0, x1, x2, x3, x4⟩ := five H1.out.bx
  have HUN := Lib.hid (Unset_any F _ _ w1 H1.out.fi H1.out.tz)
  unfold fnv at HUN
  clear hb1 HWK
  go_wp2_with fail
  refine HUN.out.mono ?_
  rintro e w2 ⟨⟨hf0, rfl⟩ | ⟨hf, v, rfl, ho, hok⟩, hb2⟩
  · have HN := Lib.hid (H1.out.next hb2).be
    rw [HE.out hf0]
    clear hf0 hb2 HUN x0 x1 x2 x3 x4
    go_wp2_with fail
    go_ret
    exact ⟨rfl, HN.out⟩
  · clear x0 x1 x2 x3 x4
    have hF := fnB_ok hf
    have H2 := Lib.hid (H1.out.next hb2)
    have HU := Lib.hid ho.to
    have HOK := Lib.hid hok
    have hn1 := hF.b1
    have hn2 := hF.b2
    have hr1 := hF.r1
    have hr0 := hF.rs0
    have hp0 := hF.p0
    have hpr := hF.pr
    have HF := Lib.hid hF
    have HFB := Lib.hid hf
    obtain ⟨ul, hul⟩ : ∃ ul, (unL F).map ixs = ul := ⟨_, rfl⟩
    have HULN := Lib.hid (show ul.length = F.bl.length from by rw [← hul, List.length_map]; exact hok.n)
    have HRW := Lib.hid (show ∀ k, k < F.bl.length → (ul.getD k []).length ≤ 4096 ∧ ∀ r ∈ ul.getD k [], 0 ≤ r ∧ r < F.rs ∧ (r < F.ps → anL F = [] → mvB F r = true) from fun k hk => by
      have hk2 : k < (unL F).length := by rw [hok.n]; exact hk
      have e : ul.getD k [] = ixs ((unL F).getD k []) := by rw [← hul]; simp [hk2]
      rw [e]
      refine ⟨?_, fun r hr => unL_row HF.out HOK.out hr⟩
      have := ixs_le ((unL F).getD k [])
      have := HOK.out.len k
      omega)
    have HU0 := Lib.hid (show ((ul.getD 0 []).length : Int) = F.rs - F.ps from by
      have hk2 : 0 < (unL F).length := by rw [hok.n]; omega
      have e : ul.getD 0 [] = ixs ((unL F).getD 0 []) := by rw [← hul]; simp [hk2]
      have := first_len HF.out
      rw [e, this]; omega)
    rw [hul] at HU
    obtain ⟨A2, c2, rfl, q1, q2⟩ := HU.out.form
    rw [HULN.out] at HU q1 ⊢
    unfold maxLen at q2
    obtain ⟨x0, x1, x2, x3, x4⟩ := five H2.out.bx
    have HWA := Lib.hid (warn_any F _ _ w2 H2.out.fi H2.out.tz)
    unfold fnv at HWA
    clear hb2 ho hok hul hf hF HUN
    go_wp2_with fail
    refine HWA.out.mono ?_
    rintro e w3 ⟨⟨hf0, -⟩ | ⟨hf, v3, rfl, ho3⟩, hb3⟩
    · exact absurd hf0 (by rw [HFB.out]; decide)
    clear x0 x1 x2 x3 x4
    have H3 := Lib.hid (H2.out.next hb3)
    have HWO := Lib.hid (show SpOk F (warnL F) from warnL_ok HF.out)
    obtain ⟨wl, hwl⟩ : ∃ wl, warnL F = wl := ⟨_, rfl⟩
    rw [hwl] at ho3 HWO
    obtain ⟨A3, c3, rfl, z1, z2⟩ := ho3.form
    unfold maxLen at z2
    have HS := Lib.hid ho3
    obtain ⟨x0, x1, x2, x3, x4⟩ := five H3.out.bx
    have HU3 := Lib.hid (HU.out.below hb3)
    obtain ⟨g2, o2, c2', A0, cc0, eu, -, -, y0, -, l1, l2⟩ := row_ HU3.out HULN.out (b := 0) (by omega)
    cases eu
    rw [Nat.add_zero] at y0
    have hLe := HU0.out
    obtain ⟨L0, hL0⟩ : ∃ L0, (ul.getD 0 []).length = L0 := ⟨_, rfl⟩
    rw [hL0] at y0 l1 hLe
    unfold maxLen at l2
    have h0n : (0 : Int) < (F.bl.length : Int) := by omega
    have hne : ((L0 : Int) != F.rs - F.ps) = false := by rw [hLe]; simp
    have x0' := fun q => (show (w3.drewN q).cell? ⟨w.heap.size, 0, none⟩ = _ from x0)
    have x1' := fun q => (show (w3.drewN q).cell? ⟨w.heap.size, 1, none⟩ = _ from x1)
    have x2' := fun q => (show (w3.drewN q).cell? ⟨w.heap.size, 2, none⟩ = _ from x2)
    have x3' := fun q => (show (w3.drewN q).cell? ⟨w.heap.size, 3, none⟩ = _ from x3)
    have x4' := fun q => (show (w3.drewN q).cell? ⟨w.heap.size, 4, none⟩ = _ from x4)
    have y0' := fun q => (show (w3.drewN q).cell? ⟨g2, o2, none⟩ = _ from y0)
    have HAN := Lib.hid (fun q => analyze_any F _ _ (w3.drewN q) (H3.out.next (below_dN (Below.refl _ _) q)).fi (H3.out.next (below_dN (Below.refl _ _) q)).tz)
    unfold fnv at HAN
    have HHL := Lib.hid (And.intro hLe hL0)
    clear hb3 ho3 hwl hf HWA hL0 hLe
    go_wp2_with fail
    go_quiet (fail)
    go_wp2_with fail
    refine (HAN.out _).mono ?_
    rintro e w4 ⟨⟨hf0, -⟩ | ⟨-, v4, rfl, ho4, -⟩, hb4⟩
    · exact absurd hf0 (by rw [HFB.out]; decide)
    have hb34 : Below w3.heap.size w3 w4 := (below_dN (Below.refl _ _) _).trans (below_of_le hb4 (Nat.le_refl _))
    have H4 := Lib.hid (H3.out.next hb34)
    have HU4 := Lib.hid (HU3.out.below hb34)
    have HS4 := Lib.hid (HS.out.belowS hb34)
    obtain ⟨A4, c4, rfl, k1, k2⟩ := ho4.form
    unfold maxLen at k2
    obtain ⟨N4, hN4⟩ : ∃ n, (anL F).length = n := ⟨_, rfl⟩
    have HN4 := Lib.hid hN4
    rw [hN4] at k1 ⊢
    clear x0 x1 x2 x3 x4 x0' x1' x2' x3' x4' y0 y0' hb34 hb4 ho4 HAN hN4 HU3 HS
    go_wp2_with fail
    go_loopw [59] (fun i wr => ∃ k : Nat, k ≤ F.bl.length ∧ i = .int .i64 k ∧ Hid (Below w4.heap.size w4 wr)) (fun i _ => F.bl.length - (intOf i).toNat)
    case atStart => exact ⟨0, Nat.zero_le _, rfl, Below.refl _ _⟩
    case round =>
      obtain ⟨k, hk, rfl, HB⟩ := hrel
      by_cases hlt : k < F.bl.length
      · obtain ⟨g', o', c', Ak, ck, eu, -, -, yk0, hik, lk1, lk2⟩ := row_ HU4.out HULN.out hlt
        cases eu
        have yk := (HB.out.cell (p := ⟨g2, o2 + k, none⟩) (cell_lt yk0)).trans yk0
        have hrk := HRW.out k hlt
        obtain ⟨lk, hlk⟩ : ∃ lk, ul.getD k [] = lk := ⟨_, rfl⟩
        rw [hlk] at yk hik lk1 hrk
        have HRK := Lib.hid hrk
        have hl4 := hrk.1
        have HIK := Lib.hid hik
        unfold maxLen at lk2
        have HB0 := Lib.hid HB.out
        clear hrk hik hlk yk0 HB
        go_wp2_with fail
        go_loopw [67] (fun i wr => ∃ j : Nat, j ≤ lk.length ∧ i = .int .i64 j ∧ Hid (Below w4.heap.size w4 wr)) (fun i _ => lk.length - (intOf i).toNat)
        case atStart => exact ⟨0, Nat.zero_le _, rfl, HB0.out⟩
        case round =>
          clear yk HB0
          obtain ⟨j, hj, rfl, HB⟩ := hrel
          by_cases hjt : j < lk.length
          · obtain ⟨gi, oi, ci, ea, -, -, -, hci⟩ := (HIK.out.below HB.out).open_ (Nat.lt_of_le_of_lt (Nat.zero_le _) hjt)
            cases ea
            have y := hci j hjt
            have hr := HRK.out.2 _ (List.getElem_mem hjt)
            obtain ⟨r, hre⟩ : ∃ r, lk[j] = r := ⟨_, rfl⟩
            rw [hre] at y hr
            obtain ⟨r1', r2', r3'⟩ := hr
            have HM := Lib.hid r3'
            have H5 := Lib.hid (H4.out.next HB.out)
            obtain ⟨x0, x1, x2, x3, x4⟩ := five H5.out.bx
            have d1 : decide (r < 0) = false := by simp; omega
            have d2 : decide (F.rs ≤ r) = false := by simp; omega
            clear hci hre r3'
            by_cases hp : r < F.ps
            · have d3 : decide (r < F.ps) = true := by simpa using hp
              cases N4 with
              | succ n =>
                have HN := Lib.hid HB.out
                clear HB HM
                go_wp2_with fail
                go_roundw
                case rel => exact ⟨j + 1, by omega, by go_num, HN.out⟩
                case measure => simp [intOf]; omega
              | zero =>
                have hmv := HM.out hp (List.eq_nil_of_length_eq_zero HN4.out)
                have HMV := Lib.hid (moved_any F _ _ r wr H5.out.fi hmv)
                unfold fnv at HMV
                have HBB := Lib.hid HB.out
                clear HB HM hmv
                go_wp2_with fail
                refine HMV.out.mono ?_
                rintro e w5 ⟨rfl, hb5⟩
                have HN := Lib.hid (HBB.out.trans (below_of_le hb5 HBB.out.size))
                clear hb5 HMV x0 x1 x2 x3 x4
                go_wp2_with fail
                go_roundw
                case rel => exact ⟨j + 1, by omega, by go_num, HN.out⟩
                case measure => simp [intOf]; omega
            · have d3 : decide (r < F.ps) = false := by simpa using hp
              have HN := Lib.hid HB.out
              clear HB HM
              go_wp2_with fail
              go_roundw
              case rel => exact ⟨j + 1, by omega, by go_num, HN.out⟩
              case measure => simp [intOf]; omega
          · have HN := Lib.hid HB.out
            clear HB
            go_wp2_with fail
            go_roundw
            case rel => exact ⟨k + 1, by omega, by go_num, HN.out⟩
            case measure => simp [intOf]; omega
      · have HB0 := Lib.hid HB.out
        clear HB
        go_wp2_with fail
        go_loopw [98] (fun i wr => ∃ k : Nat, k ≤ wl.length ∧ i = .int .i64 k ∧ Hid (Below w4.heap.size w4 wr)) (fun i _ => wl.length - (intOf i).toNat)
        case atStart => exact ⟨0, Nat.zero_le _, rfl, HB0.out⟩
        case round =>
          clear HB0
          obtain ⟨k, hk, rfl, HB⟩ := hrel
          by_cases hlt : k < wl.length
          · obtain ⟨gs, cs', ea, -, -, -, hci⟩ := HS4.out.cells (Nat.lt_of_le_of_lt (Nat.zero_le _) hlt)
            cases ea
            have hcw : ∀ {p : Addr} {v : Value}, w4.cell? p = some v → wr.cell? p = some v := fun {p v} hp => (HB.out.cell (p := p) (cell_lt hp)).trans hp
            obtain ⟨s0, s1, s2⟩ := hci k hlt
            have s0 := hcw s0
            have s1 := hcw s1
            have s2 := hcw s2
            obtain ⟨hw1, hw2, hw3, hw4⟩ := HWO.out.1 k hlt
            have H5 := Lib.hid (H4.out.next HB.out)
            obtain ⟨gb, ob, cb, eb, -, -, -, hbc⟩ := H5.out.fi.bl.open_ (show 0 < F.bl.length by omega)
            cases eb
            obtain ⟨ov, hbc⟩ := hbc _ hw1
            have t0 := hbc.c0
            obtain ⟨Ao, co, rfl, -, -⟩ := hbc.os.form
            rw [blk_at_ hw1] at hw2
            have hprev : ∀ k', k = k' + 1 → ∃ (pb po : Nat) (pr : Int), wr.cell? ⟨gs, k' * 3, none⟩ = some (.int .i64 (pb : Int)) ∧ wr.cell? ⟨gs, k' * 3 + 1, none⟩ = some (.int .i64 (po : Int)) ∧ wr.cell? ⟨gs, k' * 3 + 2, none⟩ = some (.int .i64 pr) ∧ (pb < wl[k].b ∨ pb = wl[k].b ∧ (po < wl[k].o ∨ po = wl[k].o ∧ pr < wl[k].r)) := by
              rintro k' rfl
              obtain ⟨a0, a1, a2⟩ := hci k' (by omega)
              exact ⟨_, _, _, hcw a0, hcw a1, hcw a2, HWO.out.2 k' hlt⟩
            obtain ⟨NO, hNO⟩ : ∃ n, (F.bl[wl[k].b]).os.length = n := ⟨_, rfl⟩
            rw [hNO] at t0 hw2
            obtain ⟨sb, hsb⟩ : ∃ n, wl[k].b = n := ⟨_, rfl⟩
            obtain ⟨so, hso⟩ : ∃ n, wl[k].o = n := ⟨_, rfl⟩
            obtain ⟨sr, hsr⟩ : ∃ n, wl[k].r = n := ⟨_, rfl⟩
            rw [hsb] at s0 t0 hw1
            rw [hso] at s1 hw2
            rw [hsr] at s2 hw3 hw4
            rw [hsb, hso, hsr] at hprev
            have HPV := Lib.hid hprev
            have hal := below1 wr (.cells #[.int .i64 (sb : Int), .int .i64 (so : Int), .int .i64 sr] 40)
            obtain ⟨x0, x1, x2, x3, x4⟩ := five (H5.out.next hal).bx
            have hSp := Blk.new wr 40 #[.int .i64 (sb : Int), .int .i64 (so : Int), .int .i64 sr]
            obtain ⟨gq, hgq⟩ : ∃ gq, wr.heap.size = gq := ⟨_, rfl⟩
            obtain ⟨W0, hW0⟩ : ∃ W0, wr.alloc (.cells #[.int .i64 (sb : Int), .int .i64 (so : Int), .int .i64 sr] 40) = W0 := ⟨_, rfl⟩
            have t0a := (hal.cell (p := ⟨gb, ob + sb * 6, none⟩) (cell_lt t0)).trans t0
            have hB0 := HB.out.trans (below_of_le hal HB.out.size)
            rw [hW0] at t0a x0 x1 x2 x3 x4 hSp hal hB0
            rw [hgq] at hSp
            have hszW : W0.heap.size = gq + 1 := by rw [← hW0, ← hgq, World.size_alloc]
            have r0 := fun q => (show (W0.drewN q).cell? ⟨gq, 0, none⟩ = some (.int .i64 (sb : Int)) from (hSp.cell 0).trans rfl)
            have r1 := fun q => (show (W0.drewN q).cell? ⟨gq, 1, none⟩ = some (.int .i64 (so : Int)) from (hSp.cell 1).trans rfl)
            have r2 := fun q => (show (W0.drewN q).cell? ⟨gq, 2, none⟩ = some (.int .i64 sr) from (hSp.cell 2).trans rfl)
            have r3 := (hSp.cell 0).trans rfl
            have r4 := (hSp.cell 1).trans rfl
            have r5 := (hSp.cell 2).trans rfl
            have x2' := fun q => (show (W0.drewN q).cell? ⟨w.heap.size, 2, none⟩ = _ from x2)
            have x4' := fun q => (show (W0.drewN q).cell? ⟨w.heap.size, 4, none⟩ = _ from x4)
            have t0a' := fun q => (show (W0.drewN q).cell? ⟨gb, ob + sb * 6, none⟩ = _ from t0a)
            have d1 : decide ((sb : Int) < 0) = false := by simp
            have d2 : decide ((F.bl.length : Int) ≤ (sb : Int)) = false := by simp; omega
            have d3 : decide ((so : Int) < 0) = false := by simp
            have d4 : decide ((NO : Int) < (so : Int)) = false := by simp; omega
            have d5 : decide (sr < 0) = false := by simp; omega
            have d6 : decide (F.rs ≤ sr) = false := by simp; omega
            have HB9 := Lib.hid (And.intro hB0 (And.intro hSp hszW))
            have HW0 := Lib.hid (And.intro hW0 hgq)
            have HAL := Lib.hid hal
            clear hci hcw hbc hprev hNO hsb hso hsr hal t0 hSp hW0 hgq HB hB0 hszW
            go_upto_region 29 with fail
            rw [HW0.out.1, HW0.out.2]
            go_quiet (fail)
            obtain ⟨W1, hW1⟩ : ∃ W1, W0.drewN nq = W1 := ⟨_, rfl⟩
            have hb01 : Below W0.heap.size W0 W1 := by rw [← hW1]; exact below_dN (Below.refl _ _) nq
            rw [hW1]
            have HN := Lib.hid (HB9.out.1.trans (below_of_le hb01 HB9.out.1.size))
            cases k with
            | zero =>
              clear hb01 hW1 r0 r1 r2 r3 r4 r5 x0 x1 x2 x3 x4 x2' x4' t0a t0a' s0 s1 s2 d1 d2 d3 d4 d5 d6
              go_wp2_with fail
              go_roundw
              case rel => exact ⟨1, by omega, by go_num, HN.out⟩
              case measure => simp [intOf]; omega
            | succ k' =>
              obtain ⟨pb, po, pr, a0, a1, a2, hl⟩ := HPV.out k' rfl
              have hb := HAL.out.trans (below_of_le hb01 HAL.out.size)
              have a0 := (hb.cell (p := ⟨gs, k' * 3, none⟩) (cell_lt a0)).trans a0
              have a1 := (hb.cell (p := ⟨gs, k' * 3 + 1, none⟩) (cell_lt a1)).trans a1
              have a2 := (hb.cell (p := ⟨gs, k' * 3 + 2, none⟩) (cell_lt a2)).trans a2
              have hS1 := (HB9.out.2.1.below hb01 HB9.out.2.1.lt).alloc (.cells #[.int .i64 (pb : Int), .int .i64 (po : Int), .int .i64 pr] 40)
              have hP1 := Blk.new W1 40 #[.int .i64 (pb : Int), .int .i64 (po : Int), .int .i64 pr]
              have u0 := (hS1.cell 0).trans rfl
              have u1 := (hS1.cell 1).trans rfl
              have u2 := (hS1.cell 2).trans rfl
              have v0 := (hP1.cell 0).trans rfl
              have v1 := (hP1.cell 1).trans rfl
              have v2 := (hP1.cell 2).trans rfl
              have HN2 := Lib.hid (HN.out.trans (below_of_le (below1 W1 (.cells #[.int .i64 (pb : Int), .int .i64 (po : Int), .int .i64 pr] 40)) HN.out.size))
              have hpos : (0 : Int) < ((k' + 1 : Nat) : Int) := by omega
              have hk1 : ((k' + 1 : Nat) : Int) - 1 = (k' : Int) := by omega
              have hkl : (k' : Int) < (wl.length : Int) := by omega
              clear hb hS1 hP1 hb01 hW1 r0 r1 r2 r3 r4 r5 x0 x1 x2 x3 x4 x2' x4' t0a t0a' s0 s1 s2 d1 d2 d3 d4 d5 d6
              rcases hl with hl | ⟨rfl, hl | ⟨rfl, hl⟩⟩
              · have d1 : decide ((sb : Int) < (pb : Int)) = false := by simp; omega
                have d2 : ((pb : Int) == (sb : Int)) = false := by simp; omega
                go_wp2_with fail
                go_roundw
                case rel => exact ⟨k' + 1 + 1, by omega, by go_num, HN2.out⟩
                case measure => simp [intOf]; omega
              · have d1 : decide ((so : Int) < (po : Int)) = false := by simp; omega
                have d2 : ((po : Int) == (so : Int)) = false := by simp; omega
                go_wp2_with fail
                go_roundw
                case rel => exact ⟨k' + 1 + 1, by omega, by go_num, HN2.out⟩
                case measure => simp [intOf]; omega
              · have d1 : decide (sr ≤ pr) = false := by simp; omega
                go_wp2_with fail
                go_roundw
                case rel => exact ⟨k' + 1 + 1, by omega, by go_num, HN2.out⟩
                case measure => simp [intOf]; omega
          · have HN := Lib.hid HB.out
            clear HB
            go_wp2_with fail
            go_ret
            exact ⟨rfl, H4.out.be.trans (below_of_le HN.out H4.out.be.size)⟩
end Go.Proofs.YtlmoblmkhicoeaaGreatDoor
