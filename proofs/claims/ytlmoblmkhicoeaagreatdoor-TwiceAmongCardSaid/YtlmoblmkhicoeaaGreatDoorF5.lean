/- Walks: Reached, jumps. Conditions: the table of keywords; small parts. Walks: (*lives).end. Conditions: what lies where. -/
import Derived.Test.YtlmoblmkhicoeaaGreatDoorG3
set_option linter.unusedVariables false
set_option linter.unusedSimpArgs false
namespace Go.Proofs.YtlmoblmkhicoeaaGreatDoor
open Go.RowKit
set_option maxRecDepth 100000 in
set_option maxHeartbeats 2000000 in
theorem reached_any (F : Fn) (sv bv : Value) (w : World) (h : FnIn w F sv bv) :
    Calls Tryz.prog 11 #[fnv F sv bv] w fun e w' => (fnB F = false ∧ e = .returned (.tuple #[.slice none 0 0, errV F]) ∨ fnB F = true ∧ ∃ gr, e = .returned (.tuple #[.slice (some ⟨gr, 0, none⟩) F.bl.length F.bl.length, .int .i64 0]) ∧ BRow w' gr (rchL F) ∧ w.heap.size ≤ gr) ∧ Below w.heap.size w w' := by
  obtain ⟨A, c, rfl, h1, h2⟩ := h.bl.form
  obtain ⟨As, cs, rfl, -, -⟩ := RowOf.form h.sl
  have hb1 := below1 w (.cells #[.string F.nm, .int .i64 F.ps, .int .i64 F.rs, .slice As F.sl.length cs, .slice A F.bl.length c] 25)
  have HD := Lib.hid (drawn_any F (.slice As F.sl.length cs) (.slice A F.bl.length c) _ (h.below hb1))
  have HE := Lib.hid (show fnB F = false → errV F = .int .i64 180 from fun hb => by rw [errV, hb]; rfl)
  have HB1 := Lib.hid hb1
  clear h hb1
  unfold fnv at HD
  unfold fnv
  go_enter Tryz.func11, Tryz.ntmps11
  go_wp2_with fail
  refine HD.out.mono ?_
  rintro e w1 ⟨⟨hb, rfl⟩ | ⟨hb, gg, rfl, hgr⟩, hb1⟩
  · have hb2 := Lib.hid (HB1.out.trans (below_of_le hb1 HB1.out.size))
    have HB := Lib.hid hb
    rw [HE.out hb]
    clear hb hb1
    go_wp2_with fail
    refine bodyPost_ret (v := .tuple #[.slice none 0 0, .int .i64 180]) (by simp [results, Tryz.results11, go_sem]) rfl ⟨Or.inl ⟨HB.out, by rw [HE.out HB.out]⟩, hb2.out⟩
  · obtain ⟨hge, tov, gr, hg, how, hbr, hggr⟩ := hgr
    have hb2 := Lib.hid (HB1.out.trans (below_of_le hb1 HB1.out.size))
    have HB := Lib.hid hb
    have c6 : w1.cell? ⟨gg, 6, none⟩ = some (.slice (some ⟨gr, 0, none⟩) F.bl.length F.bl.length) := (hg.cell 6).trans rfl
    have HR := Lib.hid (And.intro hbr (show w.heap.size ≤ gr by have := HB1.out.size; omega))
    clear hb hb1 hge hg how hbr hggr
    go_wp2_with fail
    refine bodyPost_ret (v := .tuple #[.slice (some ⟨gr, 0, none⟩) F.bl.length F.bl.length, .int .i64 0]) (by simp [results, Tryz.results11, go_sem]) rfl ⟨Or.inr ⟨HB.out, gr, rfl, HR.out⟩, hb2.out⟩
set_option maxRecDepth 100000 in
set_option maxHeartbeats 2000000 in
theorem jumps_any (o : Op) (av : Value) (w : World) (hf : ∃ A c, av = .slice A o.ar.length c) :
    Calls Tryz.prog 90 #[opv o av] w fun e w' => e = .returned (.bool (jumpsB o)) ∧ Below w.heap.size w w' := by
  obtain ⟨A, c, rfl⟩ := hf
  unfold opv
  cases k1 : (o.k == 28) with
  | true =>
    go_enter Tryz.func90, Tryz.ntmps90
    go_wp2_with fail
    go_ret
    exact ⟨ret_bool (by rw [jumpsB, k1]; rfl), below1 _ _⟩
  | false =>
    cases k2 : (o.k == 29) with
    | false =>
      go_enter Tryz.func90, Tryz.ntmps90
      go_wp2_with fail
      go_ret
      exact ⟨ret_bool (by rw [jumpsB, k1, k2]; rfl), below1 _ _⟩
    | true =>
      cases s1 : (o.tx.toList == [108, 111, 110, 103, 106, 109, 112]) with
      | true =>
        go_enter Tryz.func90, Tryz.ntmps90
        go_wp2_with fail
        go_ret
        exact ⟨ret_bool (by rw [jumpsB, k1, k2, isS, s1]; rfl), below1 _ _⟩
      | false =>
        cases s2 : (o.tx.toList == [99, 111, 95, 114, 101, 115, 117, 109, 101]) with
        | true =>
          go_enter Tryz.func90, Tryz.ntmps90
          go_wp2_with fail
          go_ret
          exact ⟨ret_bool (by rw [jumpsB, k1, k2, isS, isS, s1, s2]; rfl), below1 _ _⟩
        | false =>
          cases s3 : (o.tx.toList == [99, 111, 95, 121, 105, 101, 108, 100]) with
          | true =>
            go_enter Tryz.func90, Tryz.ntmps90
            go_wp2_with fail
            go_ret
            exact ⟨ret_bool (by rw [jumpsB, k1, k2, isS, isS, isS, s1, s2, s3]; rfl), below1 _ _⟩
          | false =>
            go_enter Tryz.func90, Tryz.ntmps90
            go_wp2_with fail
            go_ret
            exact ⟨ret_bool (by rw [jumpsB, k1, k2, isS, isS, isS, s1, s2, s3]; rfl), below1 _ _⟩
end Go.Proofs.YtlmoblmkhicoeaaGreatDoor
namespace Go.Proofs.YtlmoblmkhicoeaaGreatDoor
open Go.RowKit
def ptr (g : Nat) : Value := .pointer (some ⟨g, 0, none⟩)
/-- What is live, as found keeps it. -/
structure LvAt (W : World) (gl gg : Nat) (F : Fn) (sv bv tov : Value) (gr : Nat) (inv : Value) (gs : List Nat) (ins : List (List Nat)) : Prop where
  lb : Blk W gl 88 #[.pointer (some ⟨gg, 0, none⟩), inv]
  gb : Blk W gg 90 (grA F sv bv tov (.slice (some ⟨gr, 0, none⟩) F.bl.length F.bl.length))
  to : ToAt W tov (toL F)
  rc : BRow W gr (rchL F)
  fi : FnIn W F sv bv
  ir : RowOf W inv F.bl.length (gs.map ptr)
  gn : gs.length = F.bl.length
  il : ins.length = F.bl.length
  st : ∀ i (h : i < gs.length) (h2 : i < ins.length), SetAt W gs[i] ins[i] F.rs.toNat
  nd : gs.Nodup
  ok : FnOk F
theorem LvAt.below {W W' : World} {gl gg : Nat} {F : Fn} {sv bv tov : Value} {gr : Nat} {inv : Value} {gs : List Nat} {ins : List (List Nat)} (h : LvAt W gl gg F sv bv tov gr inv gs ins) (hb : Below W.heap.size W W') : LvAt W' gl gg F sv bv tov gr inv gs ins :=
  ⟨h.lb.below hb h.lb.lt, h.gb.below hb h.gb.lt, h.to.below hb, h.rc.below hb, h.fi.below hb, h.ir.below hb, h.gn, h.il, fun i a b => (h.st i a b).below hb, h.nd, h.ok⟩
theorem FnOk.rsN {F : Fn} (h : FnOk F) : F.rs = ((F.rs.toNat : Nat) : Int) ∧ F.rs.toNat ≤ 4096 := by
  have := h.rs0; have := h.r1
  omega
/-- The set of one block. -/
theorem LvAt.get {W : World} {gl gg : Nat} {F : Fn} {sv bv tov : Value} {gr : Nat} {inv : Value} {gs : List Nat} {ins : List (List Nat)} (h : LvAt W gl gg F sv bv tov gr inv gs ins) {t : Nat} (ht : t < F.bl.length) :
    ∃ g, (∃ gi off cap, inv = .slice (some ⟨gi, off, none⟩) F.bl.length cap ∧ F.bl.length ≤ cap ∧ cap ≤ maxLen ∧ W.cell? ⟨gi, off + t, none⟩ = some (.pointer (some ⟨g, 0, none⟩)) ∧ gi < W.heap.size) ∧ SetAt W g (ins.getD t zeroW) F.rs.toNat ∧ gs[t]? = some g := by
  have h1 : t < gs.length := by rw [h.gn]; exact ht
  have h2 : t < ins.length := by rw [h.il]; exact ht
  obtain ⟨gi, off, cap, e, q1, q2, q3, q4⟩ := h.ir.open_ (by omega)
  refine ⟨gs[t], ⟨gi, off, cap, e, q1, q2, q4 t _ ?_, q3⟩, ?_, List.getElem?_eq_getElem h1⟩
  · rw [List.getElem?_map, List.getElem?_eq_getElem h1]; rfl
  · have e2 : ins.getD t zeroW = ins[t] := by simp [h2]
    rw [e2]; exact h.st t h1 h2
theorem zs_list (v : Value) : (Tryz.zeroCells110.setIfInBounds 64 v).toList = zeroW.map (fun x : Nat => Value.int .u64 (x : Int)) ++ [v] := by kernel_rfl
theorem set_new (w : World) (most : Nat) : SetAt (w.alloc (.cells (Tryz.zeroCells110.setIfInBounds 64 (.int .i64 (most : Int))) 110)) w.heap.size zeroW most :=
  ⟨⟨_, Blk.new w _ _, zs_list _⟩, rfl, fun x hx => by rw [List.eq_of_mem_replicate hx]; decide⟩
theorem foldS_step {α β : Type} (f : β → α → β) (l : List α) (s : β) {j : Nat} (hj : j < l.length) : (l.take (j + 1)).foldl f s = f ((l.take j).foldl f s) l[j] := by
  rw [List.take_succ_eq_append_getElem hj, List.foldl_append]; rfl
theorem blk_at_ {F : Fn} {b : Nat} (hb : b < F.bl.length) : blk F b = F.bl[b] := by simp [blk, hb]
/-- The block of an index, as it lies. -/
theorem LvAt.bl_ {W : World} {gl gg : Nat} {F : Fn} {sv bv tov : Value} {gr : Nat} {inv : Value} {gs : List Nat} {ins : List (List Nat)} (h : LvAt W gl gg F sv bv tov gr inv gs ins) {b : Nat} (hb : b < F.bl.length) :
    ∃ g off cap Ao co, bv = .slice (some ⟨g, off, none⟩) F.bl.length cap ∧ F.bl.length ≤ cap ∧ cap ≤ maxLen ∧ g < W.heap.size ∧ BlCells W g (off + b * 6) (blk F b) (.slice Ao (blk F b).os.length co) := by
  obtain ⟨g, off, cap, e, q1, q2, q3, q4⟩ := h.fi.bl.open_ (by omega)
  obtain ⟨ov, hc⟩ := q4 b hb
  obtain ⟨Ao, co, e2, -, -⟩ := hc.os.form
  rw [blk_at_ hb]
  exact ⟨g, off, cap, Ao, co, e, q1, q2, q3, e2 ▸ hc⟩
/-- The list of an index. -/
theorem LvAt.to_ {W : World} {gl gg : Nat} {F : Fn} {sv bv tov : Value} {gr : Nat} {inv : Value} {gs : List Nat} {ins : List (List Nat)} (h : LvAt W gl gg F sv bv tov gr inv gs ins) {b : Nat} (hb : b < F.bl.length) :
    ∃ g off cap A2 c2, tov = .slice (some ⟨g, off, none⟩) F.bl.length cap ∧ F.bl.length ≤ cap ∧ cap ≤ maxLen ∧ W.cell? ⟨g, off + b, none⟩ = some (.slice A2 (onceL (exT (blk F b).x)).length c2) ∧ Ints W (.slice A2 (onceL (exT (blk F b).x)).length c2) (onceL (exT (blk F b).x)) ∧ (onceL (exT (blk F b).x)).length ≤ c2 ∧ c2 ≤ maxLen := by
  obtain ⟨g, off, cap, e, q1, q2, q3, q4⟩ := h.to.open_ (by rw [toL_len]; omega)
  obtain ⟨v, hc, hv⟩ := q4 b (by rw [toL_len]; exact hb)
  have e3 : (toL F)[b]'(by rw [toL_len]; exact hb) = onceL (exT (blk F b).x) := by rw [blk_at_ hb]; simp [toL]
  rw [e3] at hv
  rw [toL_len] at e q1
  obtain ⟨A2, c2, e2, r1, r2⟩ := hv.form
  subst e2
  exact ⟨g, off, cap, A2, c2, e, q1, q2, hc, hv, r1, r2⟩
set_option maxRecDepth 100000 in
set_option maxHeartbeats 4000000 in
theorem end_any (gl gg : Nat) (F : Fn) (sv bv tov : Value) (gr : Nat) (inv : Value) (gs : List Nat) (ins : List (List Nat)) (b : Nat) (hb : b < F.bl.length) (w : World) (h : LvAt w gl gg F sv bv tov gr inv gs ins) :
    Calls Tryz.prog 31 #[.pointer (some ⟨gl, 0, none⟩), .int .i64 b] w fun e w' => (∃ g, e = .returned (.pointer (some ⟨g, 0, none⟩)) ∧ w.heap.size ≤ g ∧ SetAt w' g (endP F ins b) F.rs.toNat) ∧ Below w.heap.size w w' := by
  have HL := Lib.hid h
  obtain ⟨hrs, hrs2⟩ := h.ok.rsN
  obtain ⟨g1, o1, c1, A1, d1, rfl, q1, q2, q3, q4, q5, q6⟩ := h.to_ hb
  obtain ⟨g2, o2, c2, Ao, co, rfl, r1, r2, r3, r4⟩ := h.bl_ hb
  have l0 : w.cell? ⟨gl, 0, none⟩ = some (.pointer (some ⟨gg, 0, none⟩)) := (h.lb.cell 0).trans rfl
  have m2 : w.cell? ⟨gg, 2, none⟩ = some (.int .i64 F.rs) := (h.gb.cell 2).trans rfl
  have m5 : w.cell? ⟨gg, 5, none⟩ = some (.slice (some ⟨g1, o1, none⟩) F.bl.length c1) := (h.gb.cell 5).trans rfl
  obtain ⟨m, hm⟩ : ∃ m, F.rs.toNat = m := ⟨_, rfl⟩
  rw [hrs, hm] at m2
  have HM := Lib.hid hm
  clear hrs
  have HNEW := Lib.hid (set_new w m)
  obtain ⟨ts, hts⟩ : ∃ ts, onceL (exT (blk F b).x) = ts := ⟨_, rfl⟩
  have HTS := Lib.hid (show ∀ t ∈ ts, 1 ≤ t ∧ t < (F.bl.length : Int) from fun t ht => by
    rw [← hts, blk_at_ hb] at ht
    exact h.ok.to1 hb t ht)
  have HTL := Lib.hid (show ts.length ≤ 2 by rw [← hts]; exact Nat.le_trans (onceL_len _) (exT_len _))
  have HEND := Lib.hid (show endP F ins b = if (blk F b).x.k = 4 then dropW (ts.foldl (endS F ins) zeroW) (blk F b).x.d else ts.foldl (endS F ins) zeroW by rw [endP, hts])
  rw [hts] at q3 q4 q5
  unfold maxLen at q2 q6 r2
  have HQ4 := Lib.hid q4
  have hdl := Lib.hid (show ∀ (hk : (blk F b).x.k = 4), (blk F b).x.d < 4096 from fun hk => by
    have := (exB_set (h.ok.ex _ (List.getElem_mem hb)) (by rw [← blk_at_ hb]; exact hk)).2.2.1
    rw [← blk_at_ hb] at this
    have := h.ok.r1
    omega)
  have BB := r4
  obtain ⟨bb, hbb⟩ : ∃ bb, blk F b = bb := ⟨_, rfl⟩
  rw [hbb] at HEND r4 hdl BB
  obtain ⟨s0, s1, s2, s3, s4, s5, s6⟩ := r4
  have e1 := cell_al q3 (.cells (Tryz.zeroCells110.setIfInBounds 64 (.int .i64 (m : Int))) 110)
  have e2 := cell_al l0 (.cells (Tryz.zeroCells110.setIfInBounds 64 (.int .i64 (m : Int))) 110)
  have e3 := cell_al m5 (.cells (Tryz.zeroCells110.setIfInBounds 64 (.int .i64 (m : Int))) 110)
  rw [hm] at hrs2
  clear h q4 hts hbb s6 hm
  go_enter Tryz.func31, Tryz.ntmps31
  go_wp2_with fail
  go_loopw [30] (fun i wr => ∃ j : Nat, j ≤ ts.length ∧ i = .int .i64 j ∧ Hid (SetAt wr w.heap.size ((ts.take j).foldl (endS F ins) zeroW) m ∧ Below w.heap.size w wr)) (fun i _ => ts.length - (intOf i).toNat)
  case atStart => exact ⟨0, Nat.zero_le _, rfl, HNEW.out, below1 _ _⟩
  case round =>
    clear HNEW e1 e2 e3
    obtain ⟨j, hj, rfl, HW⟩ := hrel
    have l0' : wr.cell? ⟨gl, 0, none⟩ = some (.pointer (some ⟨gg, 0, none⟩)) := (HW.out.2.cell (p := ⟨gl, 0, none⟩) (cell_lt l0)).trans l0
    by_cases hjt : j < ts.length
    · obtain ⟨gt, ot, ct, ea, t1, t2, tg, tc⟩ := (HQ4.out.below HW.out.2).open_ (Nat.lt_of_le_of_lt (Nat.zero_le _) hjt)
      cases ea
      have c0 := tc j hjt
      have htt := HTS.out ts[j] (List.getElem_mem hjt)
      have hst := foldS_step (endS F ins) ts zeroW hjt
      obtain ⟨t, ht⟩ : ∃ t : Nat, ts[j] = (t : Int) := ⟨ts[j].toNat, by omega⟩
      rw [ht] at c0 htt hst
      have htn : t < F.bl.length := by omega
      obtain ⟨g, ⟨gi, oi, ci, rfl, u1, u2, u3, u4⟩, hs, -⟩ := HL.out.get htn
      unfold maxLen at u2
      have u5 : wr.cell? ⟨gi, oi + t, none⟩ = some (.pointer (some ⟨g, 0, none⟩)) := (HW.out.2.cell (p := ⟨gi, oi + t, none⟩) u4).trans u3
      have u6 : w.cell? ⟨gl, 1, none⟩ = some (.slice (some ⟨gi, oi, none⟩) F.bl.length ci) := (HL.out.lb.cell 1).trans rfl
      have u7 : wr.cell? ⟨gl, 1, none⟩ = some (.slice (some ⟨gi, oi, none⟩) F.bl.length ci) := (HW.out.2.cell (p := ⟨gl, 1, none⟩) (cell_lt u6)).trans u6
      rw [HM.out] at hs
      have hg := hs.lt
      have HJ := Lib.hid (join_any w.heap.size g _ _ m m wr HW.out.1 (hs.below HW.out.2) (by omega) hrs2)
      have HST := Lib.hid (show (ts.take (j + 1)).foldl (endS F ins) zeroW = joinN ((ts.take j).foldl (endS F ins) zeroW) (ins.getD t zeroW) ((m + 63) / 64) by
        rw [hst, endS, nW, HM.out, show ((t : Int)).toNat = t by omega])
      clear tc htt hst ht hs u6
      go_wp2_with fail
      refine HJ.out.mono ?_
      rintro e w4 ⟨rfl, hs4, hk4⟩
      have HN := Lib.hid (show SetAt w4 w.heap.size ((ts.take (j + 1)).foldl (endS F ins) zeroW) m ∧ Below w.heap.size w w4 from ⟨by rw [HST.out]; exact hs4, HW.out.2.trans (hk4.toBelow HW.out.2.size (fun k hk => by omega))⟩)
      clear hs4 hk4 HW HJ
      go_wp2_with fail
      go_roundw
      case rel => exact ⟨j + 1, by omega, by go_num, HN.out⟩
      case measure => simp [intOf]; omega
    · have hje : j = ts.length := by omega
      subst hje
      have HS := Lib.hid HW.out.1
      rw [List.take_length] at HS
      have HB := Lib.hid HW.out.2
      have m4 : w.cell? ⟨gg, 4, none⟩ = some (.slice (some ⟨g2, o2, none⟩) F.bl.length c2) := (HL.out.gb.cell 4).trans rfl
      have m4' : wr.cell? ⟨gg, 4, none⟩ = some (.slice (some ⟨g2, o2, none⟩) F.bl.length c2) := (HB.out.cell (p := ⟨gg, 4, none⟩) (cell_lt m4)).trans m4
      have x1 := (HB.out.cell (p := ⟨g2, o2 + b * 6 + 1, none⟩) r3).trans s1
      have x2 := (HB.out.cell (p := ⟨g2, o2 + b * 6 + 2, none⟩) r3).trans s2
      have x3 := (HB.out.cell (p := ⟨g2, o2 + b * 6 + 3, none⟩) r3).trans s3
      have x4 := (HB.out.cell (p := ⟨g2, o2 + b * 6 + 4, none⟩) r3).trans s4
      have x5 := (HB.out.cell (p := ⟨g2, o2 + b * 6 + 5, none⟩) r3).trans s5
      clear HW s0 s1 s2 s3 s4 s5 m4 BB
      have hb3 := below1 wr (.cells #[.int .i64 bb.x.k, .int .i64 bb.x.a, .int .i64 bb.x.d, .int .i64 bb.x.t, .int .i64 bb.x.e] 43)
      have HB3 := Lib.hid (HB.out.trans (below_of_le hb3 HB.out.size))
      have HS3 := Lib.hid (HS.out.below hb3)
      clear hb3
      cases hk4 : (bb.x.k == 4) with
      | false =>
        have HE := Lib.hid (HEND.out.trans (if_neg (ne_of_beq_false hk4)))
        go_wp2_with fail
        go_ret
        exact ⟨⟨_, rfl, Nat.le_refl _, by rw [HE.out, HM.out]; exact HS3.out⟩, HB3.out⟩
      | true =>
        have HE := Lib.hid (HEND.out.trans (if_pos (eq_of_beq hk4)))
        have HDR := Lib.hid (drop_any w.heap.size _ m bb.x.d _ HS3.out (hdl.out (eq_of_beq hk4)))
        go_wp2_with fail
        refine HDR.out.mono ?_
        rintro e w4 ⟨rfl, hs4, hk5⟩
        have HN := Lib.hid (show SetAt w4 w.heap.size (endP F ins b) F.rs.toNat ∧ Below w.heap.size w w4 from ⟨by rw [HE.out, HM.out]; exact hs4, HB3.out.trans (hk5.toBelow HB3.out.size (fun k hk => by omega))⟩)
        clear hs4 hk5 HDR
        go_wp2_with fail
        go_ret
        exact ⟨⟨_, rfl, Nat.le_refl _, HN.out.1⟩, HN.out.2⟩
end Go.Proofs.YtlmoblmkhicoeaaGreatDoor
