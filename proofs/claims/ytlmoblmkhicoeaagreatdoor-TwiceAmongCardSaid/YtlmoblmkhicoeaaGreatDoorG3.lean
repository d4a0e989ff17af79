/- Walks: drawn. Conditions: the table of keywords; small parts. -/
import Derived.Test.YtlmoblmkhicoeaaGreatDoorG2
set_option linter.unusedVariables false
set_option linter.unusedSimpArgs false
namespace Go.Proofs.YtlmoblmkhicoeaaGreatDoor
open Go.RowKit
def grA (F : Fn) (sv bv tov rv : Value) : Array Value := #[.string F.nm, .int .i64 F.ps, .int .i64 F.rs, sv, bv, tov, rv]
/-- A graph as drawn hands it back. -/
structure GrAt (W : World) (B gg : Nat) (F : Fn) (sv bv : Value) : Prop where
  ge : B ≤ gg
  ra : ∃ tov gr, Blk W gg 90 (grA F sv bv tov (.slice (some ⟨gr, 0, none⟩) F.bl.length F.bl.length)) ∧ OwnR W (gg + 1) tov (toL F) ∧ BRow W gr (rchL F) ∧ gg < gr
structure DrW (w : World) (F : Fn) (sv bv : Value) (gg : Nat) (tov : Value) (tl : List (List Int)) (W : World) : Prop where
  bx : Blk W w.heap.size 25 (fnA F sv bv)
  gb : Blk W gg 90 (grA F sv bv tov (.slice none 0 0))
  ow : OwnR W (gg + 1) tov tl
  be : Below w.heap.size w W
  gt : w.heap.size < gg
theorem DrW.next {w W W' : World} {F : Fn} {sv bv : Value} {gg : Nat} {tov : Value} {tl : List (List Int)} (h : DrW w F sv bv gg tov tl W) (hb : Below W.heap.size W W') : DrW w F sv bv gg tov tl W' :=
  ⟨h.bx.below hb h.bx.lt, h.gb.below hb h.gb.lt, h.ow.below hb, h.be.trans (below_of_le hb h.be.size), h.gt⟩
theorem DrW.put {w W W' : World} {F : Fn} {sv bv : Value} {gg : Nat} {tov tov' : Value} {tl tl' : List (List Int)} (h : DrW w F sv bv gg tov tl W) (hk : Keeps (fun k => tov.ownBlock = some k) W W') (ho : OwnR W' (gg + 1) tov' tl') :
    DrW w F sv bv gg tov' tl' (W'.setCell ⟨gg, 5, none⟩ tov') ∧ Blk W' gg 90 (grA F sv bv tov (.slice none 0 0)) := by
  have hg : ¬ tov.ownBlock = some gg := fun e => by have := h.ow.ge gg e; omega
  have hg2 : ¬ tov.ownBlock = some w.heap.size := fun e => by have := h.ow.ge _ e; have := h.gt; omega
  have g1 := h.gb.keeps hk hg
  have hb : Below w.heap.size w W' := h.be.trans (hk.toBelow h.be.size (fun k hk' e => by have := h.ow.ge k e; have := h.gt; omega))
  have hk2 : Keeps (fun k => k = gg) W' (W'.setCell ⟨gg, 5, none⟩ tov') := (Keeps.refl (fun k => k = gg) W').setCell (p := ⟨gg, 5, none⟩) (Or.inr rfl) _
  exact ⟨⟨(h.bx.keeps hk hg2).far (by have := h.gt; show w.heap.size ≠ gg; omega) _, g1.set_ 5 tov', ho.keeps hk2 (fun g hg => by omega), Below.setC hb (by have := h.gt; omega) _, h.gt⟩, g1⟩
theorem toL_step {F : Fn} {k : Nat} (hk : k < F.bl.length) : (toL F).take (k + 1) = (toL F).take k ++ [onceL (exT F.bl[k].x)] := by
  rw [List.take_succ_eq_append_getElem (by rw [toL_len]; exact hk)]
  simp [toL]
set_option maxRecDepth 100000 in
set_option maxHeartbeats 4000000 in
theorem drawn_any (F : Fn) (sv bv : Value) (w : World) (h : FnIn w F sv bv) :
    Calls Tryz.prog 32 #[fnv F sv bv] w fun e w' => (fnB F = false ∧ e = .returned (.tuple #[.pointer none, errV F]) ∨ fnB F = true ∧ ∃ gg, e = .returned (.tuple #[.pointer (some ⟨gg, 0, none⟩), .int .i64 0]) ∧ GrAt w' w.heap.size gg F sv bv) ∧ Below w.heap.size w w' := by
  obtain ⟨A, c, rfl, h1, h2⟩ := h.bl.form
  obtain ⟨As, cs, rfl, -, -⟩ := RowOf.form h.sl
  unfold maxLen at h2
  have HI := Lib.hid h
  have hb1 := below1 w (.cells (fnA F (.slice As F.sl.length cs) (.slice A F.bl.length c)) 25)
  have HC := Lib.hid (check_any F (.slice As F.sl.length cs) (.slice A F.bl.length c) _ (h.below hb1))
  have HBX := Lib.hid (And.intro (Blk.new w 25 (fnA F (.slice As F.sl.length cs) (.slice A F.bl.length c))) hb1)
  obtain ⟨b, hb⟩ : ∃ b, fnB F = b := ⟨_, rfl⟩
  have HE := Lib.hid (show errV F = .int .i64 (if b then 0 else 180) by rw [errV, hb])
  rw [HE.out] at HC
  clear h hb1
  unfold fnv at HC
  unfold fnA at HC HBX
  unfold fnv
  cases b with
  | false =>
    have HB := Lib.hid hb
    clear hb
    go_enter Tryz.func32, Tryz.ntmps32
    go_wp2_with fail
    refine HC.out.mono ?_
    rintro e w1 ⟨rfl, hb1⟩
    have HB1 := Lib.hid (HBX.out.2.trans (below_of_le hb1 HBX.out.2.size))
    clear hb1
    go_wp2_with fail
    refine bodyPost_ret (v := .tuple #[.pointer none, .int .i64 180]) (by simp [results, Tryz.results32, go_sem]) rfl ⟨Or.inl ⟨HB.out, by rw [HE.out]; rfl⟩, HB1.out⟩
  | true =>
    have HOK := Lib.hid (fnB_ok hb)
    have HB := Lib.hid hb
    have hn1 := HOK.out.b1
    have hn2 := HOK.out.b2
    clear hb
    go_enter Tryz.func32, Tryz.ntmps32
    go_wp2_with fail
    refine HC.out.mono ?_
    rintro e w1 ⟨rfl, hb1⟩
    have hbx := HBX.out.1.below hb1 HBX.out.1.lt
    have f0 : w1.cell? ⟨w.heap.size, 0, none⟩ = some (.string F.nm) := (hbx.cell 0).trans rfl
    have f1 : w1.cell? ⟨w.heap.size, 1, none⟩ = some (.int .i64 F.ps) := (hbx.cell 1).trans rfl
    have f2 : w1.cell? ⟨w.heap.size, 2, none⟩ = some (.int .i64 F.rs) := (hbx.cell 2).trans rfl
    have f3 : w1.cell? ⟨w.heap.size, 3, none⟩ = some (.slice As F.sl.length cs) := (hbx.cell 3).trans rfl
    have f4 : w1.cell? ⟨w.heap.size, 4, none⟩ = some (.slice A F.bl.length c) := (hbx.cell 4).trans rfl
    have hb2 := HBX.out.2.trans (below_of_le hb1 HBX.out.2.size)
    have HST := Lib.hid (show DrW w F (.slice As F.sl.length cs) (.slice A F.bl.length c) w1.heap.size (.slice none 0 0) [] (w1.alloc (.cells (grA F (.slice As F.sl.length cs) (.slice A F.bl.length c) (.slice none 0 0) (.slice none 0 0)) 90)) from
      ⟨hbx.alloc _, Blk.new _ _ _, OwnR.nil _ _, hb2.trans (below_of_le (below1 w1 _) hb2.size), hbx.lt⟩)
    obtain ⟨gg, hgg⟩ : ∃ gg, w1.heap.size = gg := ⟨_, rfl⟩
    rw [hgg] at HST
    unfold grA at HST
    have g4 : (w1.alloc (.cells #[.string F.nm, .int .i64 F.ps, .int .i64 F.rs, .slice As F.sl.length cs, .slice A F.bl.length c, .slice none 0 0, .slice none 0 0] 90)).cell? ⟨w.heap.size, 4, none⟩ = some (.slice A F.bl.length c) := cell_al f4 _
    clear hbx hb1 hb2 HBX
    go_wp2_with fail
    go_loopw [24] (fun i wr => ∃ k : Nat, k ≤ F.bl.length ∧ i = .int .i64 k ∧ Hid (∃ tov, DrW w F (.slice As F.sl.length cs) (.slice A F.bl.length c) gg tov ((toL F).take k) wr)) (fun i _ => F.bl.length - (intOf i).toNat)
    case atStart => exact ⟨0, Nat.zero_le _, rfl, _, HST.out⟩
    case round =>
      clear f0 f1 f2 f3 f4 HST hgg g4 HC
      obtain ⟨k, hk, rfl, HW⟩ := hrel
      obtain ⟨tov, hw⟩ := HW.out
      obtain ⟨At, ct, rfl, t1, t2⟩ := hw.ow.form
      have HD := Lib.hid hw
      obtain ⟨L, hL⟩ : ∃ L, ((toL F).take k).length = L := ⟨_, rfl⟩
      rw [hL] at HD t1
      clear HW hw
      by_cases hlt : k < F.bl.length
      · obtain ⟨g, off, cap', ea, h3, h4, hg, hc⟩ := (BlsAt.below HI.out.bl HD.out.be).open_ (Nat.lt_of_le_of_lt (Nat.zero_le _) hlt)
        cases ea
        obtain ⟨ov, hcc⟩ := hc k hlt
        obtain ⟨c0, c1, c2, c3, c4, c5, car⟩ := hcc
        obtain ⟨Ao, co, rfl, -, -⟩ := car.form
        have hts := toL_step hlt
        obtain ⟨b, hbk⟩ : ∃ b, F.bl[k] = b := ⟨_, rfl⟩
        rw [hbk] at c0 c1 c2 c3 c4 c5 hts
        have HE := Lib.hid (fun w => exits_any b.x w)
        have HTS := Lib.hid hts
        have HLEN := Lib.hid (exT_len b.x)
        have hb1 := below1 wr (.cells #[.slice Ao b.os.length co, .int .i64 b.x.k, .int .i64 b.x.a, .int .i64 b.x.d, .int .i64 b.x.t, .int .i64 b.x.e] 45)
        have HD1 := Lib.hid (HD.out.next hb1)
        unfold exv at HE
        clear car hc hbk hts hb1
        go_wp2_with fail
        refine (HE.out _).mono ?_
        rintro e w2 ⟨⟨v1, v2, rfl, -, ⟨hv2, -⟩⟩, hb1⟩
        obtain ⟨A2, cc2, rfl, k1, k2⟩ := hv2.form
        unfold maxLen at k2
        have HV2 := Lib.hid hv2
        have HD2 := Lib.hid (HD1.out.next hb1)
        obtain ⟨ts, hte⟩ : ∃ ts, exT b.x = ts := ⟨_, rfl⟩
        rw [hte] at HV2 HTS HLEN k1
        rw [hte]
        clear hv2 hb1 c0 c1 c2 c3 c4 c5 HE HD HD1 hte
        go_wp2_with fail
        go_loopw [36, 10] (fun i ov wr => ∃ j : Nat, j ≤ ts.length ∧ i = .int .i64 j ∧ Hid (OwnI wr w2.heap.size ov (onceL (ts.take j)) ∧ Below w2.heap.size w2 wr)) (fun i _ _ => ts.length - (intOf i).toNat)
        case atStart => exact ⟨0, Nat.zero_le _, rfl, OwnI.nil _ _, Below.refl _ _⟩
        case round =>
          obtain ⟨j, hj, rfl, HW⟩ := hrel
          by_cases hjt : j < ts.length
          · obtain ⟨g2, off2, cap2, ea, h5, h6, hg2, hc2⟩ := (HV2.out.below HW.out.2).open_ (Nat.lt_of_le_of_lt (Nat.zero_le _) hjt)
            cases ea
            have c0 := hc2 j hjt
            have hos := once_step hjt
            obtain ⟨t, ht⟩ : ∃ t, ts[j] = t := ⟨_, rfl⟩
            rw [ht] at c0 hos
            obtain ⟨b3, hb3⟩ : ∃ b, (onceL (ts.take j)).contains t = b := ⟨_, rfl⟩
            have HQ := Lib.hid (containsInt_any _ _ t _ HW.out.1.ints)
            have hsh : onceS (onceL (ts.take j)) t = if b3 then onceL (ts.take j) else onceL (ts.take j) ++ [t] := by rw [onceS, hb3]
            rw [hb3] at HQ
            rw [hsh] at hos
            have HOS := Lib.hid hos
            have hln : (onceL (ts.take j)).length < 16777216 := by
              have := onceL_len (ts.take j)
              rw [List.length_take] at this
              have := HLEN.out
              omega
            clear hc2 ht hb3 hsh hos
            go_wp2_with fail
            refine HQ.out.mono ?_
            rintro e w4 ⟨rfl, rfl⟩
            cases b3 with
            | true =>
              go_wp2_with fail
              go_roundw
              case rel => exact ⟨j + 1, by omega, by go_num, by rw [HOS.out]; exact HW.out⟩
              case measure => simp [intOf]; omega
            | false =>
              obtain ⟨v', w5, hap, how, hkp⟩ := HW.out.1.push HW.out.2.size (by omega) t 34
              have HAP := Lib.hid hap
              have HN := Lib.hid (show OwnI w5 w2.heap.size v' (onceL (ts.take j) ++ [t]) ∧ Below w2.heap.size w2 w5 from ⟨how, HW.out.2.trans (HW.out.1.keepsB hkp HW.out.2.size)⟩)
              clear hap how hkp HW hln
              go_wp2_with (at_builtin; refine wpList_append_eq rfl (.tmp 44) (.tmp 46) 34 rfl rfl rfl HAP.out ?_)
              go_roundw
              case rel => exact ⟨j + 1, by omega, by go_num, by rw [HOS.out]; exact HN.out⟩
              case measure => simp [intOf]; omega
          · have hje : j = ts.length := by omega
            subst hje
            have HW4 := Lib.hid HW.out
            rw [List.take_length] at HW4
            clear HW
            obtain ⟨Au, cu, rfl, -, -⟩ := HW4.out.1.form
            have hd := HD2.out.next HW4.out.2
            have g5 : wr.cell? ⟨gg, 5, none⟩ = some (.slice At L ct) := (hd.gb.cell 5).trans rfl
            obtain ⟨v', w5, hap, how, hkp⟩ := hd.ow.push (HW4.out.1.lower (by have := HD2.out.gb.lt; omega)) (by have := hd.gb.lt; omega) (by rw [List.length_take, toL_len]; omega) 27
            obtain ⟨Av, cv, rfl, -, -⟩ := how.form
            obtain ⟨Lv, hLv⟩ : ∃ Lv, ((toL F).take k ++ [onceL ts]).length = Lv := ⟨_, rfl⟩
            rw [hLv] at hap how
            obtain ⟨hput, hblk⟩ := hd.put hkp how
            have p1 : w5.cell? ⟨gg, 5, none⟩ = some (.slice At L ct) := (hblk.cell 5).trans rfl
            have p2 := hblk.frozen 5
            have HAP := Lib.hid hap
            have HPUT := Lib.hid hput
            rw [← HTS.out] at HPUT
            clear hap how hkp hput hblk hd hLv
            go_wp2_with (at_builtin; refine wpList_append_eq rfl (.tmp 53) (.tmp 55) 27 rfl rfl rfl HAP.out ?_)
            go_roundw
            case rel => exact ⟨k + 1, by omega, by go_num, _, HPUT.out⟩
            case measure => simp [intOf]; omega
      · have hke : k = F.bl.length := by omega
        subst hke
        have hlen2 : (toL F).take F.bl.length = toL F := List.take_of_length_le (by rw [toL_len]; exact Nat.le_refl _)
        rw [hlen2] at HD
        have g5 : wr.cell? ⟨gg, 5, none⟩ = some (.slice At L ct) := (HD.out.gb.cell 5).trans rfl
        have HQ := Lib.hid (from_any gg (toL F) _ wr g5 HD.out.ow.to HOK.out.to (by rw [toL_len]; omega) (by rw [toL_len]; omega))
        rw [toL_len] at HQ
        go_wp2_with fail
        refine HQ.out.mono ?_
        rintro e w4 ⟨⟨gr, rfl, hbr, hge⟩, hb4⟩
        have hgb := HD.out.gb.below hb4 HD.out.gb.lt
        have p1 : w4.cell? ⟨gg, 6, none⟩ = some (.slice none 0 0) := (hgb.cell 6).trans rfl
        have p2 := hgb.frozen 6
        have hggr : gg < gr := Nat.lt_of_lt_of_le HD.out.gb.lt hge
        have HB4 := Lib.hid (HD.out.be.trans (below_of_le hb4 HD.out.be.size))
        have hk2 : Keeps (fun k => k = gg) w4 (w4.setCell ⟨gg, 6, none⟩ (.slice (some ⟨gr, 0, none⟩) F.bl.length F.bl.length)) := (Keeps.refl (fun k => k = gg) w4).setCell (p := ⟨gg, 6, none⟩) (Or.inr rfl) _
        have HFIN := Lib.hid (show GrAt (w4.setCell ⟨gg, 6, none⟩ (.slice (some ⟨gr, 0, none⟩) F.bl.length F.bl.length)) w.heap.size gg F (.slice As F.sl.length cs) (.slice A F.bl.length c) ∧ Below w.heap.size w (w4.setCell ⟨gg, 6, none⟩ (.slice (some ⟨gr, 0, none⟩) F.bl.length F.bl.length)) from
          ⟨⟨Nat.le_of_lt HD.out.gt, _, gr, hgb.set_ 6 _, (HD.out.ow.below hb4).keeps hk2 (fun g hg => by omega), hbr.keeps hk2 (by show ¬ gr = gg; omega), hggr⟩, Below.setC HB4.out (Nat.le_of_lt HD.out.gt) _⟩)
        clear hbr hge hb4 hgb hk2 hggr HD HQ
        go_wp2_with fail
        refine bodyPost_ret (v := .tuple #[.pointer (some ⟨gg, 0, none⟩), .int .i64 0]) (by simp [results, Tryz.results32, go_sem]) rfl ⟨Or.inr ⟨HB.out, gg, rfl, HFIN.out.1⟩, HFIN.out.2⟩
end Go.Proofs.YtlmoblmkhicoeaaGreatDoor
