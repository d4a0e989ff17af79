/- The walk of MemHolds: it answers true. Conditions: the slice of ranges reads ms such. -/
import Derived.Test.YtbffclcjhcbejaaL2
namespace Go.Proofs.Ytbffclcjhcbejaa
open Go.RowKit
theorem list1 {cs : List Int} (h : cs.length = Int.toNat 1) : ∃ b0, cs = [b0] := by
  match cs, h with
  | [b0], _ => exact ⟨b0, rfl⟩
theorem list2 {cs : List Int} (h : cs.length = Int.toNat 2) : ∃ b0 b1, cs = [b0, b1] := by
  match cs, h with
  | [b0, b1], _ => exact ⟨b0, b1, rfl⟩
theorem list4 {cs : List Int} (h : cs.length = Int.toNat 4) : ∃ b0 b1 b2 b3, cs = [b0, b1, b2, b3] := by
  match cs, h with
  | [b0, b1, b2, b3], _ => exact ⟨b0, b1, b2, b3, rfl⟩
set_option maxRecDepth 100000 in
set_option maxHeartbeats 8000000 in
theorem holds_any (lv : Value) (rs : List Rng) (at_ n x other v : Int) (w : World) (hl : RSlice w lv rs) (h1 : 0 ≤ at_) (h2 : at_ ≤ 4294967295) (h3 : 0 ≤ x) (h4 : x ≤ 4294967295) (h5 : 0 ≤ other) (h6 : other ≤ 4294967295) (h7 : 0 ≤ v) (h8 : v ≤ 4294967295) :
    Calls Try.prog 4 #[lv, .int .u32 at_, .int .i64 n, .int .u32 x, .int .u32 other, .int .u32 v] w fun e w' => e = .returned (.bool true) ∧ Below w.heap.size w w' := by
  have HL := Lib.hid hl
  obtain ⟨Al, capl, rfl, _⟩ := hl
  go_enter Try.func4, Try.ntmps4
  go_wp2_with fail
  refine (works_any _).mono ?_
  rintro e w0 ⟨rfl, hb0⟩
  have HB0 := Lib.hid hb0
  clear hb0
  go_wp2_with fail
  refine (new_any _ rs _ (HL.out.below HB0.out)).mono ?_
  rintro e w1 ⟨hb1, hcase⟩
  have HB1 := Lib.hid (HB0.out.trans (hb1.mono HB0.out.size))
  have hsz0 := HB0.out.size
  rcases hcase with ⟨hc, rfl⟩ | ⟨hc, bm, ms, rfl, hbm, hm, hf⟩
  · have hcb : (chkR rs != 0) = true := by simp [hc]
    generalize chkR rs = c at *
    clear hc hb1
    go_wp2_with fail
    go_ret
    exact ⟨rfl, HB1.out⟩
  · have HM1 := Lib.hid hm
    have HF := Lib.hid hf
    have HC := Lib.hid hc
    have HNEW : Hid (∀ g ∈ rowsOf ms, w.heap.size ≤ g) := fun g hg => Nat.le_trans hsz0 (hf.new g hg)
    clear hm hf hc hb1 hbm
    go_wp2_with fail
    refine (store_any bm ms at_ n x _ HM1.out h1 h2 h3 h4).mono ?_
    rintro e w2 ⟨rfl, hm2, hk2, hrows2⟩
    have hB2 : Below w.heap.size w w2 := ((keeps_of_below (fun _ => False) HB1.out).trans hk2 (fun i hi e => by have := HNEW.out i e; omega)).below
    have HB2 := Lib.hid hB2
    have HM2 := Lib.hid hm2
    have HROWS := Lib.hid hrows2
    clear hk2 hB2 hm2 hrows2
    by_cases hst : (storeR ms at_ n x).1 = 0
    · have hlaw := holds_law (other := other) (v := v) (ms1 := (storeR ms at_ n x).2) HC.out HF.out.ranges (fun a ha => (HM1.out.each a ha).lx) (fun a ha => (HM1.out.each a ha).ok) (fun a ha => (HM1.out.each a ha).bx) h3 h4 h7 (by rw [← hst])
      rw [hst]
      obtain ⟨ms1, hms1⟩ : ∃ ms1, (storeR ms at_ n x).2 = ms1 := ⟨_, rfl⟩
      rw [hms1] at hlaw HM2 HROWS
      have HLAW := Lib.hid hlaw
      clear hlaw hst hms1
      go_wp2_with fail
      refine (store_any bm ms1 other 1 v _ HM2.out h5 h6 h7 h8).mono ?_
      rintro e w3 ⟨rfl, hm3, hk3, _⟩
      have hB3 : Below w.heap.size w w3 := ((keeps_of_below (fun _ => False) HB2.out).trans hk3 (fun i hi e => by have := HNEW.out i (HROWS.out ▸ e); omega)).below
      have HB3 := Lib.hid hB3
      obtain ⟨ms2, hms2⟩ : ∃ ms2, (storeR ms1 other 1 v).2 = ms2 := ⟨_, rfl⟩
      obtain ⟨e2, he2⟩ : ∃ e2, (storeR ms1 other 1 v).1 = e2 := ⟨_, rfl⟩
      rw [hms2] at hm3 HLAW
      rw [he2]
      obtain ⟨cs, hcl, hn, hcb, hend, hbyte, hload, hread⟩ := HLAW.out
      have HM3 := Lib.hid hm3
      have HCL := Lib.hid hcl
      have HCB := Lib.hid hcb
      have HBYTE := Lib.hid hbyte
      have HLOAD := Lib.hid hload
      have HREAD := Lib.hid hread
      clear hm3 hk3 hB3 hms2 he2 hcl hcb hbyte hload hread
      go_wp2_with fail
      rcases hn with rfl | rfl | rfl
      · go_loopw [15] (fun i wr => ∃ k : Nat, k ≤ 1 ∧ i = .int .i64 k ∧ Hid (Below w3.heap.size w3 wr)) (fun i _ => 1 - (intOf i).toNat)
        case atStart => exact ⟨0, by omega, rfl, Below.refl _ _⟩
        case round =>
          obtain ⟨k, hk, rfl, HBR⟩ := hrel
          have HMR := Lib.hid (HM3.out.below HBR.out)
          have hk4 : k = 0 ∨ k = 1 := by omega
          rcases hk4 with rfl | rfl
          · cases ho : (other == at_) with
            | true =>
              have hl : loadR ms2 (at_) 1 = (v % 256, 0) := by
                obtain ⟨e1, e2⟩ := HBYTE.out 0 (by decide)
                have he : other = at_ := by simpa using ho
                rw [if_pos (by rw [he]; first | rfl | simp)] at e2
                rw [e2] at e1
                first | exact e1 | simpa using e1
              have HLD := Lib.hid hl
              clear hl
              go_wp2_with fail
              refine (load_any bm ms2 _ 1 _ HMR.out (by omega) (by omega)).mono ?_
              rintro e w4 ⟨rfl, hb4⟩
              rw [HLD.out]
              have HB4 := Lib.hid (HBR.out.trans (hb4.mono HBR.out.size))
              clear hb4
              go_wp2_with fail
              go_roundw
              case rel => exact ⟨1, by omega, rfl, HB4.out⟩
              case measure => simp [intOf]
            | false =>
              have hl : loadR ms2 (at_) 1 = (x % 256, 0) := by
                obtain ⟨e1, e2⟩ := HBYTE.out 0 (by decide)
                have he : ¬ other = at_ := by simpa using ho
                rw [if_neg (by intro h; exact he (by rw [h]; first | rfl | simp))] at e2
                have e3 : (bytesOf x (Int.toNat 1)).getD 0 0 = x % 256 := by
                  show x % 256 = x % 256
                  omega
                rw [e2, e3] at e1
                first | exact e1 | simpa using e1
              have HLD := Lib.hid hl
              clear hl
              go_wp2_with fail
              refine (load_any bm ms2 _ 1 _ HMR.out (by omega) (by omega)).mono ?_
              rintro e w4 ⟨rfl, hb4⟩
              rw [HLD.out]
              have HB4 := Lib.hid (HBR.out.trans (hb4.mono HBR.out.size))
              clear hb4
              go_wp2_with fail
              go_roundw
              case rel => exact ⟨1, by omega, rfl, HB4.out⟩
              case measure => simp [intOf]
          · obtain ⟨b0, rfl⟩ : ∃ b0, cs = [b0] := list1 HCL.out
            have hX := HCB.out
            simp only [isBytes, List.mem_cons, List.not_mem_nil, or_false, forall_eq_or_imp, forall_eq] at hX
            obtain ⟨X, hXd⟩ : ∃ X, leW [b0] = X := ⟨_, rfl⟩
            have hXe : X = b0 := by rw [← hXd]; simp only [leW]; omega
            have HL2 := HLOAD.out
            rw [hXd] at HL2
            have HLOAD2 := Lib.hid HL2
            have hX0 : 0 ≤ X := by omega
            have hX1 : X ≤ 4294967295 := by omega
            have q0 : X % 256 = b0 := by omega
            clear HL2 hXd hXe
            go_wp2_with fail
            refine (load_any bm ms2 at_ 1 _ HMR.out h1 h2).mono ?_
            rintro e w4 ⟨rfl, hb4⟩
            rw [HLOAD2.out]
            have HM4 := Lib.hid (HMR.out.below hb4)
            have hB4 := (HBR.out.trans (hb4.mono HBR.out.size))
            have HB4 := Lib.hid (HB3.out.trans (hB4.mono HB3.out.size))
            clear hb4 hB4
            go_wp2_with fail
            refine (read_any bm ms2 at_ 1 _ HM4.out h1 h2).mono ?_
            rw [HREAD.out]
            rintro e w5 ⟨v5, rfl, ho5, hb5⟩
            have HB5 := Lib.hid (HB4.out.trans (hb5.mono HB4.out.size))
            obtain ⟨g5, cap5, hv5⟩ := row_shape2 (n := 0) ho5
            have hcap5 : 1 ≤ cap5 ∧ cap5 ≤ maxLen := by
              obtain ⟨_, _, e, h1, h2⟩ := slice_form ho5
              rw [hv5] at e
              cases e
              exact ⟨h1, h2⟩
            rw [hv5] at ho5
            have r0 : w5.cell? ⟨g5, 0, none⟩ = some (.int .u8 b0) := by rw [ho5.cellAt 0 (by decide)]; rfl
            subst hv5
            obtain ⟨hcap51, hcap52⟩ := hcap5
            unfold maxLen at hcap52
            clear ho5 hb5
            go_wp2_with fail
            go_loop [22] (fun i => ∃ j : Nat, j ≤ 1 ∧ i = .int .i64 ((j : Int) - 1)) (fun i => (intOf i + 1).toNat)
            case atStart => exact ⟨1, by omega, rfl⟩
            case round =>
              obtain ⟨j, hj, rfl⟩ := hrel
              have hj4 : j = 0 ∨ j = 1 := by omega
              rcases hj4 with rfl | rfl
              · go_wp2_with fail
                go_ret
                exact ⟨rfl, HB5.out⟩
              · go_wp2_with fail
                go_round
                case rel => exact ⟨0, by omega, rfl⟩
                case measure => simp [intOf]
      · go_loopw [15] (fun i wr => ∃ k : Nat, k ≤ 2 ∧ i = .int .i64 k ∧ Hid (Below w3.heap.size w3 wr)) (fun i _ => 2 - (intOf i).toNat)
        case atStart => exact ⟨0, by omega, rfl, Below.refl _ _⟩
        case round =>
          obtain ⟨k, hk, rfl, HBR⟩ := hrel
          have HMR := Lib.hid (HM3.out.below HBR.out)
          have hk4 : k = 0 ∨ k = 1 ∨ k = 2 := by omega
          rcases hk4 with rfl | rfl | rfl
          · cases ho : (other == at_) with
            | true =>
              have hl : loadR ms2 (at_) 1 = (v % 256, 0) := by
                obtain ⟨e1, e2⟩ := HBYTE.out 0 (by decide)
                have he : other = at_ := by simpa using ho
                rw [if_pos (by rw [he]; first | rfl | simp)] at e2
                rw [e2] at e1
                first | exact e1 | simpa using e1
              have HLD := Lib.hid hl
              clear hl
              go_wp2_with fail
              refine (load_any bm ms2 _ 1 _ HMR.out (by omega) (by omega)).mono ?_
              rintro e w4 ⟨rfl, hb4⟩
              rw [HLD.out]
              have HB4 := Lib.hid (HBR.out.trans (hb4.mono HBR.out.size))
              clear hb4
              go_wp2_with fail
              go_roundw
              case rel => exact ⟨1, by omega, rfl, HB4.out⟩
              case measure => simp [intOf]
            | false =>
              have hl : loadR ms2 (at_) 1 = (x % 256, 0) := by
                obtain ⟨e1, e2⟩ := HBYTE.out 0 (by decide)
                have he : ¬ other = at_ := by simpa using ho
                rw [if_neg (by intro h; exact he (by rw [h]; first | rfl | simp))] at e2
                have e3 : (bytesOf x (Int.toNat 2)).getD 0 0 = x % 256 := by
                  show x % 256 = x % 256
                  omega
                rw [e2, e3] at e1
                first | exact e1 | simpa using e1
              have HLD := Lib.hid hl
              clear hl
              go_wp2_with fail
              refine (load_any bm ms2 _ 1 _ HMR.out (by omega) (by omega)).mono ?_
              rintro e w4 ⟨rfl, hb4⟩
              rw [HLD.out]
              have HB4 := Lib.hid (HBR.out.trans (hb4.mono HBR.out.size))
              clear hb4
              go_wp2_with fail
              go_roundw
              case rel => exact ⟨1, by omega, rfl, HB4.out⟩
              case measure => simp [intOf]
          · cases ho : (other == at_ + 1) with
            | true =>
              have hl : loadR ms2 (at_ + 1) 1 = (v % 256, 0) := by
                obtain ⟨e1, e2⟩ := HBYTE.out 1 (by decide)
                have he : other = at_ + 1 := by simpa using ho
                rw [if_pos (by rw [he]; first | rfl | simp)] at e2
                rw [e2] at e1
                first | exact e1 | simpa using e1
              have HLD := Lib.hid hl
              clear hl
              go_wp2_with fail
              refine (load_any bm ms2 _ 1 _ HMR.out (by omega) (by omega)).mono ?_
              rintro e w4 ⟨rfl, hb4⟩
              rw [HLD.out]
              have HB4 := Lib.hid (HBR.out.trans (hb4.mono HBR.out.size))
              clear hb4
              go_wp2_with fail
              go_roundw
              case rel => exact ⟨2, by omega, rfl, HB4.out⟩
              case measure => simp [intOf]
            | false =>
              have hl : loadR ms2 (at_ + 1) 1 = (x / 256 % 256, 0) := by
                obtain ⟨e1, e2⟩ := HBYTE.out 1 (by decide)
                have he : ¬ other = at_ + 1 := by simpa using ho
                rw [if_neg (by intro h; exact he (by rw [h]; first | rfl | simp))] at e2
                have e3 : (bytesOf x (Int.toNat 2)).getD 1 0 = x / 256 % 256 := by
                  show x / 256 % 256 = x / 256 % 256
                  omega
                rw [e2, e3] at e1
                first | exact e1 | simpa using e1
              have HLD := Lib.hid hl
              clear hl
              go_wp2_with fail
              refine (load_any bm ms2 _ 1 _ HMR.out (by omega) (by omega)).mono ?_
              rintro e w4 ⟨rfl, hb4⟩
              rw [HLD.out]
              have HB4 := Lib.hid (HBR.out.trans (hb4.mono HBR.out.size))
              clear hb4
              go_wp2_with fail
              go_roundw
              case rel => exact ⟨2, by omega, rfl, HB4.out⟩
              case measure => simp [intOf]
          · obtain ⟨b0, b1, rfl⟩ : ∃ b0 b1, cs = [b0, b1] := list2 HCL.out
            have hX := HCB.out
            simp only [isBytes, List.mem_cons, List.not_mem_nil, or_false, forall_eq_or_imp, forall_eq] at hX
            obtain ⟨X, hXd⟩ : ∃ X, leW [b0, b1] = X := ⟨_, rfl⟩
            have hXe : X = b0 + 256 * b1 := by rw [← hXd]; simp only [leW]; omega
            have HL2 := HLOAD.out
            rw [hXd] at HL2
            have HLOAD2 := Lib.hid HL2
            have hX0 : 0 ≤ X := by omega
            have hX1 : X ≤ 4294967295 := by omega
            have q0 : X % 256 = b0 := by omega
            have q1 : X / 256 % 256 = b1 := by omega
            clear HL2 hXd hXe
            go_wp2_with fail
            refine (load_any bm ms2 at_ 2 _ HMR.out h1 h2).mono ?_
            rintro e w4 ⟨rfl, hb4⟩
            rw [HLOAD2.out]
            have HM4 := Lib.hid (HMR.out.below hb4)
            have hB4 := (HBR.out.trans (hb4.mono HBR.out.size))
            have HB4 := Lib.hid (HB3.out.trans (hB4.mono HB3.out.size))
            clear hb4 hB4
            go_wp2_with fail
            refine (read_any bm ms2 at_ 2 _ HM4.out h1 h2).mono ?_
            rw [HREAD.out]
            rintro e w5 ⟨v5, rfl, ho5, hb5⟩
            have HB5 := Lib.hid (HB4.out.trans (hb5.mono HB4.out.size))
            obtain ⟨g5, cap5, hv5⟩ := row_shape2 (n := 1) ho5
            have hcap5 : 2 ≤ cap5 ∧ cap5 ≤ maxLen := by
              obtain ⟨_, _, e, h1, h2⟩ := slice_form ho5
              rw [hv5] at e
              cases e
              exact ⟨h1, h2⟩
            rw [hv5] at ho5
            have r0 : w5.cell? ⟨g5, 0, none⟩ = some (.int .u8 b0) := by rw [ho5.cellAt 0 (by decide)]; rfl
            have r1 : w5.cell? ⟨g5, 1, none⟩ = some (.int .u8 b1) := by rw [ho5.cellAt 1 (by decide)]; rfl
            subst hv5
            obtain ⟨hcap51, hcap52⟩ := hcap5
            unfold maxLen at hcap52
            clear ho5 hb5
            go_wp2_with fail
            go_loop [22] (fun i => ∃ j : Nat, j ≤ 2 ∧ i = .int .i64 ((j : Int) - 1)) (fun i => (intOf i + 1).toNat)
            case atStart => exact ⟨2, by omega, rfl⟩
            case round =>
              obtain ⟨j, hj, rfl⟩ := hrel
              have hj4 : j = 0 ∨ j = 1 ∨ j = 2 := by omega
              rcases hj4 with rfl | rfl | rfl
              · go_wp2_with fail
                go_ret
                exact ⟨rfl, HB5.out⟩
              · go_wp2_with fail
                go_round
                case rel => exact ⟨0, by omega, rfl⟩
                case measure => simp [intOf]
              · go_wp2_with fail
                go_round
                case rel => exact ⟨1, by omega, rfl⟩
                case measure => simp [intOf]
      · go_loopw [15] (fun i wr => ∃ k : Nat, k ≤ 4 ∧ i = .int .i64 k ∧ Hid (Below w3.heap.size w3 wr)) (fun i _ => 4 - (intOf i).toNat)
        case atStart => exact ⟨0, by omega, rfl, Below.refl _ _⟩
        case round =>
          obtain ⟨k, hk, rfl, HBR⟩ := hrel
          have HMR := Lib.hid (HM3.out.below HBR.out)
          have hk4 : k = 0 ∨ k = 1 ∨ k = 2 ∨ k = 3 ∨ k = 4 := by omega
          rcases hk4 with rfl | rfl | rfl | rfl | rfl
          · cases ho : (other == at_) with
            | true =>
              have hl : loadR ms2 (at_) 1 = (v % 256, 0) := by
                obtain ⟨e1, e2⟩ := HBYTE.out 0 (by decide)
                have he : other = at_ := by simpa using ho
                rw [if_pos (by rw [he]; first | rfl | simp)] at e2
                rw [e2] at e1
                first | exact e1 | simpa using e1
              have HLD := Lib.hid hl
              clear hl
              go_wp2_with fail
              refine (load_any bm ms2 _ 1 _ HMR.out (by omega) (by omega)).mono ?_
              rintro e w4 ⟨rfl, hb4⟩
              rw [HLD.out]
              have HB4 := Lib.hid (HBR.out.trans (hb4.mono HBR.out.size))
              clear hb4
              go_wp2_with fail
              go_roundw
              case rel => exact ⟨1, by omega, rfl, HB4.out⟩
              case measure => simp [intOf]
            | false =>
              have hl : loadR ms2 (at_) 1 = (x % 256, 0) := by
                obtain ⟨e1, e2⟩ := HBYTE.out 0 (by decide)
                have he : ¬ other = at_ := by simpa using ho
                rw [if_neg (by intro h; exact he (by rw [h]; first | rfl | simp))] at e2
                have e3 : (bytesOf x (Int.toNat 4)).getD 0 0 = x % 256 := by
                  show x % 256 = x % 256
                  omega
                rw [e2, e3] at e1
                first | exact e1 | simpa using e1
              have HLD := Lib.hid hl
              clear hl
              go_wp2_with fail
              refine (load_any bm ms2 _ 1 _ HMR.out (by omega) (by omega)).mono ?_
              rintro e w4 ⟨rfl, hb4⟩
              rw [HLD.out]
              have HB4 := Lib.hid (HBR.out.trans (hb4.mono HBR.out.size))
              clear hb4
              go_wp2_with fail
              go_roundw
              case rel => exact ⟨1, by omega, rfl, HB4.out⟩
              case measure => simp [intOf]
          · cases ho : (other == at_ + 1) with
            | true =>
              have hl : loadR ms2 (at_ + 1) 1 = (v % 256, 0) := by
                obtain ⟨e1, e2⟩ := HBYTE.out 1 (by decide)
                have he : other = at_ + 1 := by simpa using ho
                rw [if_pos (by rw [he]; first | rfl | simp)] at e2
                rw [e2] at e1
                first | exact e1 | simpa using e1
              have HLD := Lib.hid hl
              clear hl
              go_wp2_with fail
              refine (load_any bm ms2 _ 1 _ HMR.out (by omega) (by omega)).mono ?_
              rintro e w4 ⟨rfl, hb4⟩
              rw [HLD.out]
              have HB4 := Lib.hid (HBR.out.trans (hb4.mono HBR.out.size))
              clear hb4
              go_wp2_with fail
              go_roundw
              case rel => exact ⟨2, by omega, rfl, HB4.out⟩
              case measure => simp [intOf]
            | false =>
              have hl : loadR ms2 (at_ + 1) 1 = (x / 256 % 256, 0) := by
                obtain ⟨e1, e2⟩ := HBYTE.out 1 (by decide)
                have he : ¬ other = at_ + 1 := by simpa using ho
                rw [if_neg (by intro h; exact he (by rw [h]; first | rfl | simp))] at e2
                have e3 : (bytesOf x (Int.toNat 4)).getD 1 0 = x / 256 % 256 := by
                  show x / 256 % 256 = x / 256 % 256
                  omega
                rw [e2, e3] at e1
                first | exact e1 | simpa using e1
              have HLD := Lib.hid hl
              clear hl
              go_wp2_with fail
              refine (load_any bm ms2 _ 1 _ HMR.out (by omega) (by omega)).mono ?_
              rintro e w4 ⟨rfl, hb4⟩
              rw [HLD.out]
              have HB4 := Lib.hid (HBR.out.trans (hb4.mono HBR.out.size))
              clear hb4
              go_wp2_with fail
              go_roundw
              case rel => exact ⟨2, by omega, rfl, HB4.out⟩
              case measure => simp [intOf]
          · cases ho : (other == at_ + 2) with
            | true =>
              have hl : loadR ms2 (at_ + 2) 1 = (v % 256, 0) := by
                obtain ⟨e1, e2⟩ := HBYTE.out 2 (by decide)
                have he : other = at_ + 2 := by simpa using ho
                rw [if_pos (by rw [he]; first | rfl | simp)] at e2
                rw [e2] at e1
                first | exact e1 | simpa using e1
              have HLD := Lib.hid hl
              clear hl
              go_wp2_with fail
              refine (load_any bm ms2 _ 1 _ HMR.out (by omega) (by omega)).mono ?_
              rintro e w4 ⟨rfl, hb4⟩
              rw [HLD.out]
              have HB4 := Lib.hid (HBR.out.trans (hb4.mono HBR.out.size))
              clear hb4
              go_wp2_with fail
              go_roundw
              case rel => exact ⟨3, by omega, rfl, HB4.out⟩
              case measure => simp [intOf]
            | false =>
              have hl : loadR ms2 (at_ + 2) 1 = (x / 65536 % 256, 0) := by
                obtain ⟨e1, e2⟩ := HBYTE.out 2 (by decide)
                have he : ¬ other = at_ + 2 := by simpa using ho
                rw [if_neg (by intro h; exact he (by rw [h]; first | rfl | simp))] at e2
                have e3 : (bytesOf x (Int.toNat 4)).getD 2 0 = x / 65536 % 256 := by
                  show x / 65536 % 256 = x / 65536 % 256
                  omega
                rw [e2, e3] at e1
                first | exact e1 | simpa using e1
              have HLD := Lib.hid hl
              clear hl
              go_wp2_with fail
              refine (load_any bm ms2 _ 1 _ HMR.out (by omega) (by omega)).mono ?_
              rintro e w4 ⟨rfl, hb4⟩
              rw [HLD.out]
              have HB4 := Lib.hid (HBR.out.trans (hb4.mono HBR.out.size))
              clear hb4
              go_wp2_with fail
              go_roundw
              case rel => exact ⟨3, by omega, rfl, HB4.out⟩
              case measure => simp [intOf]
          · cases ho : (other == at_ + 3) with
            | true =>
              have hl : loadR ms2 (at_ + 3) 1 = (v % 256, 0) := by
                obtain ⟨e1, e2⟩ := HBYTE.out 3 (by decide)
                have he : other = at_ + 3 := by simpa using ho
                rw [if_pos (by rw [he]; first | rfl | simp)] at e2
                rw [e2] at e1
                first | exact e1 | simpa using e1
              have HLD := Lib.hid hl
              clear hl
              go_wp2_with fail
              refine (load_any bm ms2 _ 1 _ HMR.out (by omega) (by omega)).mono ?_
              rintro e w4 ⟨rfl, hb4⟩
              rw [HLD.out]
              have HB4 := Lib.hid (HBR.out.trans (hb4.mono HBR.out.size))
              clear hb4
              go_wp2_with fail
              go_roundw
              case rel => exact ⟨4, by omega, rfl, HB4.out⟩
              case measure => simp [intOf]
            | false =>
              have hl : loadR ms2 (at_ + 3) 1 = (x / 16777216 % 256, 0) := by
                obtain ⟨e1, e2⟩ := HBYTE.out 3 (by decide)
                have he : ¬ other = at_ + 3 := by simpa using ho
                rw [if_neg (by intro h; exact he (by rw [h]; first | rfl | simp))] at e2
                have e3 : (bytesOf x (Int.toNat 4)).getD 3 0 = x / 16777216 % 256 := by
                  show x / 16777216 = x / 16777216 % 256
                  omega
                rw [e2, e3] at e1
                first | exact e1 | simpa using e1
              have HLD := Lib.hid hl
              clear hl
              go_wp2_with fail
              refine (load_any bm ms2 _ 1 _ HMR.out (by omega) (by omega)).mono ?_
              rintro e w4 ⟨rfl, hb4⟩
              rw [HLD.out]
              have HB4 := Lib.hid (HBR.out.trans (hb4.mono HBR.out.size))
              clear hb4
              go_wp2_with fail
              go_roundw
              case rel => exact ⟨4, by omega, rfl, HB4.out⟩
              case measure => simp [intOf]
          · obtain ⟨b0, b1, b2, b3, rfl⟩ : ∃ b0 b1 b2 b3, cs = [b0, b1, b2, b3] := list4 HCL.out
            have hX := HCB.out
            simp only [isBytes, List.mem_cons, List.not_mem_nil, or_false, forall_eq_or_imp, forall_eq] at hX
            obtain ⟨X, hXd⟩ : ∃ X, leW [b0, b1, b2, b3] = X := ⟨_, rfl⟩
            have hXe : X = b0 + 256 * b1 + 65536 * b2 + 16777216 * b3 := by rw [← hXd]; simp only [leW]; omega
            have HL2 := HLOAD.out
            rw [hXd] at HL2
            have HLOAD2 := Lib.hid HL2
            have hX0 : 0 ≤ X := by omega
            have hX1 : X ≤ 4294967295 := by omega
            have q0 : X % 256 = b0 := by omega
            have q1 : X / 256 % 256 = b1 := by omega
            have q2 : X / 65536 % 256 = b2 := by omega
            have q3 : X / 16777216 % 256 = b3 := by omega
            clear HL2 hXd hXe
            go_wp2_with fail
            refine (load_any bm ms2 at_ 4 _ HMR.out h1 h2).mono ?_
            rintro e w4 ⟨rfl, hb4⟩
            rw [HLOAD2.out]
            have HM4 := Lib.hid (HMR.out.below hb4)
            have hB4 := (HBR.out.trans (hb4.mono HBR.out.size))
            have HB4 := Lib.hid (HB3.out.trans (hB4.mono HB3.out.size))
            clear hb4 hB4
            go_wp2_with fail
            refine (read_any bm ms2 at_ 4 _ HM4.out h1 h2).mono ?_
            rw [HREAD.out]
            rintro e w5 ⟨v5, rfl, ho5, hb5⟩
            have HB5 := Lib.hid (HB4.out.trans (hb5.mono HB4.out.size))
            obtain ⟨g5, cap5, hv5⟩ := row_shape2 (n := 3) ho5
            have hcap5 : 4 ≤ cap5 ∧ cap5 ≤ maxLen := by
              obtain ⟨_, _, e, h1, h2⟩ := slice_form ho5
              rw [hv5] at e
              cases e
              exact ⟨h1, h2⟩
            rw [hv5] at ho5
            have r0 : w5.cell? ⟨g5, 0, none⟩ = some (.int .u8 b0) := by rw [ho5.cellAt 0 (by decide)]; rfl
            have r1 : w5.cell? ⟨g5, 1, none⟩ = some (.int .u8 b1) := by rw [ho5.cellAt 1 (by decide)]; rfl
            have r2 : w5.cell? ⟨g5, 2, none⟩ = some (.int .u8 b2) := by rw [ho5.cellAt 2 (by decide)]; rfl
            have r3 : w5.cell? ⟨g5, 3, none⟩ = some (.int .u8 b3) := by rw [ho5.cellAt 3 (by decide)]; rfl
            subst hv5
            obtain ⟨hcap51, hcap52⟩ := hcap5
            unfold maxLen at hcap52
            clear ho5 hb5
            go_wp2_with fail
            go_loop [22] (fun i => ∃ j : Nat, j ≤ 4 ∧ i = .int .i64 ((j : Int) - 1)) (fun i => (intOf i + 1).toNat)
            case atStart => exact ⟨4, by omega, rfl⟩
            case round =>
              obtain ⟨j, hj, rfl⟩ := hrel
              have hj4 : j = 0 ∨ j = 1 ∨ j = 2 ∨ j = 3 ∨ j = 4 := by omega
              rcases hj4 with rfl | rfl | rfl | rfl | rfl
              · go_wp2_with fail
                go_ret
                exact ⟨rfl, HB5.out⟩
              · go_wp2_with fail
                go_round
                case rel => exact ⟨0, by omega, rfl⟩
                case measure => simp [intOf]
              · go_wp2_with fail
                go_round
                case rel => exact ⟨1, by omega, rfl⟩
                case measure => simp [intOf]
              · go_wp2_with fail
                go_round
                case rel => exact ⟨2, by omega, rfl⟩
                case measure => simp [intOf]
              · go_wp2_with fail
                go_round
                case rel => exact ⟨3, by omega, rfl⟩
                case measure => simp [intOf]
    · have hcb : ((storeR ms at_ n x).1 != 0) = true := by simp [hst]
      have hms := store_refused hst
      rw [hms] at HM2
      have hzero : ∀ ms' : List Area, ms'.Perm ms → allG ms' = [] := fun ms' hp => allG_same (fun a ha => ((HF.out.zero a (hp.mem_iff.1 ha)).2).symm)
      have HZ := Lib.hid hzero
      generalize (storeR ms at_ n x).1 = e2 at *
      clear hms hzero hst
      go_wp2_with fail
      refine (changed_any bm ms _ HM2.out).mono ?_
      rintro e w6 ⟨v6, ms', rfl, hperm, _, ho6, hb6⟩
      rw [HZ.out ms' hperm] at ho6
      obtain ⟨A6, cap6, rfl, _⟩ := gRow_owns ho6
      have HB6 := Lib.hid (HB2.out.trans (hb6.mono HB2.out.size))
      clear ho6 hb6 hperm
      go_wp2_with fail
      go_ret
      exact ⟨rfl, HB6.out⟩
end Go.Proofs.Ytbffclcjhcbejaa
