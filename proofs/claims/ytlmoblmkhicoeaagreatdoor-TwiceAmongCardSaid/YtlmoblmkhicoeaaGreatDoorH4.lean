/- Walks: flow.Live. Conditions: the tables; small parts. -/
import Derived.Test.YtlmoblmkhicoeaaGreatDoorH3
import Derived.Test.YtlmoblmkhicoeaaGreatDoorK1
set_option linter.unusedVariables false
set_option linter.unusedSimpArgs false
namespace Go.Proofs.YtlmoblmkhicoeaaGreatDoor
open Go.RowKit
theorem listW_mem {ws : List Nat} (h : ∀ x ∈ ws, x < 2 ^ 64) {N : Nat} {r : Int} (hr : r ∈ listW ws N) : ∃ i j : Nat, (ws.getD i 0).testBit j = true ∧ r = ((64 * i + j : Nat) : Int) := by
  unfold listW at hr
  obtain ⟨i, hi, hm⟩ := List.mem_flatMap.1 hr
  unfold memW at hm
  obtain ⟨j, hj, rfl⟩ := List.mem_map.1 hm
  have hw : ws.getD i 0 < 2 ^ 64 := by
    rcases Nat.lt_or_ge i ws.length with h1 | h1
    · have e : ws.getD i 0 = ws[i] := by simp [h1]
      rw [e]; exact h _ (List.getElem_mem h1)
    · have e : ws.getD i 0 = 0 := by simp [h1]
      rw [e]; decide
  exact ⟨i, j, bitsL_bit _ hw j hj, by omega⟩
theorem blk3a (w : World) (t : TypeId) (cs : Array Value) (a b : Obj) : Blk (((w.alloc (.cells cs t)).alloc a).alloc b).drew w.heap.size t cs := (((Blk.new w t cs).alloc a).alloc b).drew
theorem blk3b (w : World) (t : TypeId) (cs : Array Value) (a b : Obj) : Blk (((w.alloc a).alloc (.cells cs t)).alloc b).drew (w.heap.size + 1) t cs := ((blk_at (w := w.alloc a) (by simp [World.size_alloc]) t cs).alloc b).drew
theorem blk3c (w : World) (t : TypeId) (cs : Array Value) (a b : Obj) : Blk (((w.alloc a).alloc b).alloc (.cells cs t)).drew (w.heap.size + 1 + 1) t cs := (blk_at (w := (w.alloc a).alloc b) (by simp [World.size_alloc]) t cs).drew
theorem bel3 (w : World) (a b c : Obj) : Below w.heap.size w (((w.alloc a).alloc b).alloc c).drew := drewB ((((Below.refl _ w).alloc (Nat.le_refl _) a).alloc (by simp [World.size_alloc]) b).alloc (by simp only [World.size_alloc]; omega) c)
set_option maxRecDepth 100000 in
set_option maxHeartbeats 4000000 in
theorem live_any (F : Fn) (sv bv : Value) (w : World) (h : FnIn w F sv bv) (ht : TzAt w) :
    Calls Tryz.prog 10 #[fnv F sv bv] w fun e w' => (fnB F = false ∧ e = .returned (.tuple #[.agg #[.slice none 0 0, .slice none 0 0], errV F]) ∨ fnB F = true ∧ ∃ gI gO, e = .returned (.tuple #[.agg #[.slice (some ⟨gI, 0, none⟩) F.bl.length F.bl.length, .slice (some ⟨gO, 0, none⟩) F.bl.length F.bl.length], .int .i64 0]) ∧ (∃ B, RRow w' B gI (liveIn F)) ∧ w.heap.size ≤ gI ∧ (∃ B tO, RRow w' B gO tO ∧ tO.length = F.bl.length) ∧ ∀ l ∈ liveIn F, l.length ≤ 4096 ∧ ∀ r ∈ l, 0 ≤ r ∧ r < F.rs) ∧ Below w.heap.size w w' := by
  obtain ⟨A, c, rfl, h1, h2⟩ := h.bl.form
  obtain ⟨As, cs, rfl, -, -⟩ := RowOf.form h.sl
  unfold maxLen at h2
  have hb1 := below2 w (.cells #[.string F.nm, .int .i64 F.ps, .int .i64 F.rs, .slice As F.sl.length cs, .slice A F.bl.length c] 25) (.cells #[.slice none 0 0, .slice none 0 0] 48)
  have HD := Lib.hid (found_any F (.slice As F.sl.length cs) (.slice A F.bl.length c) _ (h.below hb1))
  have HE := Lib.hid (show fnB F = false → errV F = .int .i64 180 from fun hb => by rw [errV, hb]; rfl)
  have HBX := Lib.hid (And.intro (((Blk.new w 25 (fnA F (.slice As F.sl.length cs) (.slice A F.bl.length c))).alloc (.cells #[.slice none 0 0, .slice none 0 0] 48))) (And.intro (blk_at (w := w.alloc (.cells #[.string F.nm, .int .i64 F.ps, .int .i64 F.rs, .slice As F.sl.length cs, .slice A F.bl.length c] 25)) (n := w.heap.size + 1) (by simp [World.size_alloc]) 48 #[.slice none 0 0, .slice none 0 0]) hb1))
  have HI := Lib.hid h
  have HT := Lib.hid (ht.below hb1)
  have HT0 := Lib.hid ht
  clear h hb1 ht
  unfold fnv at HD
  unfold fnA at HBX
  unfold fnv
  go_enter Tryz.func10, Tryz.ntmps10
  go_wp2_with fail
  refine HD.out.mono ?_
  rintro e w1 ⟨⟨hb, rfl⟩ | ⟨hb, wb, gl, gg, tov, gr, inv, gs, rfl, hlb, hls⟩, hb1⟩
  · have hb2 := Lib.hid (HBX.out.2.2.trans (below_of_le hb1 HBX.out.2.2.size))
    have HB := Lib.hid hb
    have HBL := Lib.hid (HBX.out.2.1.below hb1 HBX.out.2.1.lt)
    have f0 := HBL.out.frozen 0
    have f1 := HBL.out.frozen 1
    have c0 : w1.cell? ⟨w.heap.size + 1, 0, none⟩ = some (.slice none 0 0) := (HBL.out.cell 0).trans rfl
    have c1 : w1.cell? ⟨w.heap.size + 1, 1, none⟩ = some (.slice none 0 0) := (HBL.out.cell 1).trans rfl
    rw [HE.out hb]
    clear hb hb1
    go_wp2_with fail
    have HB2 := Lib.hid (hb2.out.setCell (p := ⟨w.heap.size + 1, 0, none⟩) (Nat.le_succ _) (.slice none 0 0) |>.setCell (p := ⟨w.heap.size + 1, 1, none⟩) (Nat.le_succ _) (.slice none 0 0))
    have hB3 := (HBL.out.set_ 0 (.slice none 0 0)).set_ 1 (.slice none 0 0)
    have d0 := (hB3.cell 0).trans rfl
    have d1 := (hB3.cell 1).trans rfl
    refine bodyPost_ret (v := .tuple #[.agg #[.slice none 0 0, .slice none 0 0], .int .i64 180]) (by simp [results, Tryz.results10, go_sem, d0, d1]) rfl ⟨Or.inl ⟨HB.out, by rw [HE.out HB.out]⟩, HB2.out⟩
  · obtain ⟨m, hm⟩ : ∃ m, F.rs.toNat = m := ⟨_, rfl⟩
    have hn1 := hlb.ok.b1
    have hn2 := hlb.ok.b2
    rw [hm] at hls
    have hm2 : m ≤ 4096 := by have := hlb.ok.r1; omega
    have HM := Lib.hid hm
    have hb2 := HBX.out.2.2.trans (below_of_le hb1 HBX.out.2.2.size)
    have hbx := HBX.out.1.below hb1 HBX.out.1.lt
    have hbl := HBX.out.2.1.below hb1 HBX.out.2.1.lt
    have HB := Lib.hid hb
    have HLB := Lib.hid hlb
    have HLS := Lib.hid hls
    have HLL := Lib.hid (show ∀ l ∈ liveIn F, l.length ≤ 4096 ∧ ∀ r ∈ l, 0 ≤ r ∧ r < F.rs from by
      intro l hl
      obtain ⟨b, hb, rfl⟩ := List.mem_map.1 hl
      have hbn : b < F.bl.length := List.mem_range.1 hb
      unfold inL
      split
      · have h1 : b < gs.length := by rw [hls.gn]; exact hbn
        have h2 : b < (liveL F).length := by rw [hls.il]; exact hbn
        have h3 := hls.st b h1 h2
        have e : (liveL F).getD b zeroW = (liveL F)[b] := by simp [h2]
        rw [e]
        have h4 := listW_len h3.hi (nW F)
        have h5 : nW F ≤ 64 := by unfold nW; rw [hm]; omega
        refine ⟨by omega, fun r hr => ?_⟩
        obtain ⟨i, j, hij, rfl⟩ := listW_mem h3.hi hr
        have h6 := liveL_ok hlb.ok b i j (by rw [e]; exact hij)
        have h7 := hlb.ok.rs0
        omega
      · simp)
    have HBB := Lib.hid (And.intro hbx (And.intro hbl hb2))
    have f4 : w1.cell? ⟨w.heap.size, 4, none⟩ = some (.slice A F.bl.length c) := (hbx.cell 4).trans rfl
    obtain ⟨n, hn⟩ : ∃ n, F.bl.length = n := ⟨_, rfl⟩
    have HMK := Lib.hid (fun W => make_rows F.bl.length (by omega) W)
    clear hb hb1 hlb hls hbx hbl hb2 hm hn
    go_upto_region 4 with fail
    go_cut [6] from 17 to 25 (fun s6 wx => ∃ gI gO gL, s6 = .pointer (some ⟨gL, 0, none⟩) ∧ Hid (LiW w wb F gl gg m inv gs w1.heap.size gI gO gL 0 (fnA F (.slice As F.sl.length cs) (.slice A F.bl.length c)) wx))
    case first =>
      have hmk := HMK.out
      have f4a := fun o => cell_al f4 o
      have f4b := fun o o2 => cell_al (cell_al f4 o) o2
      go_region
      all_goals
        go_wp2_with fail
        go_meet
        exact ⟨_, _, _, rfl, LiW.start HLS.out HBB.out.2.2 HBB.out.2.1 HBB.out.1 (bel3 _ _ _ _)
          (by first | exact blk3a _ _ _ _ _ | exact blk3b _ _ _ _ _ | exact blk3c _ _ _ _ _)
          (by first | exact blk3a _ _ _ _ _ | exact blk3b _ _ _ _ _ | exact blk3c _ _ _ _ _)
          (by first | exact blk3a _ _ _ _ _ | exact blk3b _ _ _ _ _ | exact blk3c _ _ _ _ _) (by omega) (by omega) (by omega)⟩
    case rest =>
      obtain ⟨gI, gO, gL, rfl, HW0⟩ := hcut
      have f4c : wc.cell? ⟨w.heap.size, 4, none⟩ = some (.slice A F.bl.length c) := (HW0.out.bx.cell 4).trans rfl
      clear f4
      go_wp2_with fail
      go_loopw [29] (fun i wr => ∃ k : Nat, k ≤ F.bl.length ∧ i = .int .i64 k ∧ Hid (LiW w wb F gl gg m inv gs w1.heap.size gI gO gL k (fnA F (.slice As F.sl.length cs) (.slice A F.bl.length c)) wr)) (fun i _ => F.bl.length - (intOf i).toNat)
      case atStart => exact ⟨0, Nat.zero_le _, rfl, HW0.out⟩
      case round =>
        clear HW0 f4c
        obtain ⟨k, hk, rfl, HW⟩ := hrel
        by_cases hlt : k < F.bl.length
        · have HAT := Lib.hid ((show LvS wb gl gg F.bl.length F.rs.toNat _ gs (liveL F) wr from by rw [HM.out]; exact HW.out.s).at_ HLB.out)
          have y0 : wr.cell? ⟨gl, 0, none⟩ = some (.pointer (some ⟨gg, 0, none⟩)) := (HW.out.s.lb.cell 0).trans rfl
          have y6 : wr.cell? ⟨gg, 6, none⟩ = some (.slice (some ⟨gr, 0, none⟩) F.bl.length F.bl.length) := (HAT.out.gb.cell 6).trans rfl
          obtain ⟨rb, hrb, yr⟩ := HAT.out.rc.val k (by rw [HLB.out.ok.rch.1]; exact hlt)
          have HRB := Lib.hid hrb
          clear hrb
          cases rb with
          | false =>
            have HN := Lib.hid (HW.out.skip HRB.out)
            clear HW HAT
            go_wp2_with fail
            go_roundw
            case rel => exact ⟨k + 1, by omega, by go_num, HN.out⟩
            case measure => simp [intOf]; omega
          | true =>
            obtain ⟨g, ⟨gi, oi, ci, rfl, q1, q2, yg, hgi⟩, hsg, hgq⟩ := HAT.out.get hlt
            unfold maxLen at q2
            have y1 : wr.cell? ⟨gl, 1, none⟩ = some (.slice (some ⟨gi, oi, none⟩) F.bl.length ci) := (HW.out.s.lb.cell 1).trans rfl
            have z0 : wr.cell? ⟨gL, 0, none⟩ = some (.slice (some ⟨gI, 0, none⟩) F.bl.length F.bl.length) := (HW.out.lb.cell 0).trans rfl
            have z1 : wr.cell? ⟨gL, 1, none⟩ = some (.slice (some ⟨gO, 0, none⟩) F.bl.length F.bl.length) := (HW.out.lb.cell 1).trans rfl
            have HTZ := Lib.hid (HT.out)
            have HL1 := Lib.hid (fun W (hW : Below wr.heap.size wr W) => list_any g _ _ W (hsg.below hW) (by rw [HM.out]; exact hm2) ((HT0.out.below HW.out.be).below hW))
            have HL2 := Lib.hid (fun W g2 (hW : Below wr.heap.size wr W) (h2 : SetAt W g2 (endP F (liveL F) k) F.rs.toNat) => list_any g2 _ _ W h2 (by rw [HM.out]; exact hm2) ((HT0.out.below HW.out.be).below hW))
            have HEN := Lib.hid (fun W (hW : Below wr.heap.size wr W) => end_any gl gg F _ _ tov gr _ gs (liveL F) k hlt W (HAT.out.below hW))
            obtain ⟨l2, hl2⟩ : ∃ l2, listW (endP F (liveL F) k) ((F.rs.toNat + 63) / 64) = l2 := ⟨_, rfl⟩
            rw [hl2] at HL2
            obtain ⟨l1, hl1⟩ : ∃ l1, listW ((liveL F).getD k zeroW) ((F.rs.toNat + 63) / 64) = l1 := ⟨_, rfl⟩
            rw [hl1] at HL1
            have HL0 := Lib.hid (show listW ((liveL F).getD k zeroW) (nW F) = l1 from hl1)
            clear hl1
            have HST := Lib.hid (fun W (hW : Below wr.heap.size wr W) => show (∃ u, W.cell? ⟨gI, k, none⟩ = some u) ∧ W.frozen? ⟨gI, k, none⟩ = false ∧ (∃ u, W.cell? ⟨gO, k, none⟩ = some u) ∧ W.frozen? ⟨gO, k, none⟩ = false from by
              obtain ⟨t1, a1, a2, -⟩ := (HW.out.below hW).ri
              obtain ⟨t2, b1, b2⟩ := (HW.out.below hW).ro
              obtain ⟨p, hp, -⟩ := a1.cell k (by omega)
              obtain ⟨q, hq, -⟩ := b1.cell k (by omega)
              exact ⟨⟨p, hp⟩, a1.frozen k, ⟨q, hq⟩, b1.frozen k⟩)
            have HNE := Lib.hid (show gL ≠ gI ∧ gL ≠ gO ∧ gl ≠ gI ∧ gl ≠ gO ∧ gi ≠ gI ∧ gi ≠ gO ∧ gO ≠ gI from by
              obtain ⟨t1, a1, -, -⟩ := HW.out.ri
              obtain ⟨t2, b1, -⟩ := HW.out.ro
              obtain ⟨c1, d1, -⟩ := a1.b
              obtain ⟨c2, d2, -⟩ := b1.b
              obtain ⟨cu, hcu⟩ := owns_kind HW.out.s.ow (g := gi) rfl
              exact ⟨fun e => absurd (Blk.kind HW.out.lb (e ▸ d1)) (by decide), fun e => absurd (Blk.kind HW.out.lb (e ▸ d2)) (by decide), fun e => absurd (Blk.kind HW.out.s.lb (e ▸ d1)) (by decide), fun e => absurd (Blk.kind HW.out.s.lb (e ▸ d2)) (by decide), fun e => absurd (Blk.kind hcu (e ▸ d1)) (by decide), fun e => absurd (Blk.kind hcu (e ▸ d2)) (by decide), HW.out.ne.symm⟩)
            clear hl2 hsg hgq HAT
            go_wp2_with fail
            have HCL : Hid (∀ W, Below wr.heap.size wr W → W.cell? ⟨gL, 0, none⟩ = some (.slice (some ⟨gI, 0, none⟩) F.bl.length F.bl.length) ∧ W.cell? ⟨gL, 1, none⟩ = some (.slice (some ⟨gO, 0, none⟩) F.bl.length F.bl.length) ∧ W.cell? ⟨gl, 1, none⟩ = some (.slice (some ⟨gi, oi, none⟩) F.bl.length ci) ∧ W.cell? ⟨gi, oi + k, none⟩ = some (.pointer (some ⟨g, 0, none⟩))) := Lib.hid (fun W hW => ⟨(hW.cell (p := ⟨gL, 0, none⟩) (cell_lt z0)).trans z0, (hW.cell (p := ⟨gL, 1, none⟩) (cell_lt z1)).trans z1, (hW.cell (p := ⟨gl, 1, none⟩) (cell_lt y1)).trans y1, (hW.cell (p := ⟨gi, oi + k, none⟩) (cell_lt yg)).trans yg⟩)
            have HSC : Hid (∀ (W : World) (q : Nat) (u : Value), gL ≠ q → gl ≠ q → gi ≠ q → (W.cell? ⟨gL, 0, none⟩ = some (.slice (some ⟨gI, 0, none⟩) F.bl.length F.bl.length) ∧ W.cell? ⟨gL, 1, none⟩ = some (.slice (some ⟨gO, 0, none⟩) F.bl.length F.bl.length) ∧ W.cell? ⟨gl, 1, none⟩ = some (.slice (some ⟨gi, oi, none⟩) F.bl.length ci) ∧ W.cell? ⟨gi, oi + k, none⟩ = some (.pointer (some ⟨g, 0, none⟩))) → ((W.setCell ⟨q, k, none⟩ u).cell? ⟨gL, 0, none⟩ = some (.slice (some ⟨gI, 0, none⟩) F.bl.length F.bl.length) ∧ (W.setCell ⟨q, k, none⟩ u).cell? ⟨gL, 1, none⟩ = some (.slice (some ⟨gO, 0, none⟩) F.bl.length F.bl.length) ∧ (W.setCell ⟨q, k, none⟩ u).cell? ⟨gl, 1, none⟩ = some (.slice (some ⟨gi, oi, none⟩) F.bl.length ci) ∧ (W.setCell ⟨q, k, none⟩ u).cell? ⟨gi, oi + k, none⟩ = some (.pointer (some ⟨g, 0, none⟩)))) := Lib.hid (fun W q u n1 n2 n3 ⟨s0, s1, s2, s3⟩ => ⟨(cell_far n1 _).trans s0, (cell_far n1 _).trans s1, (cell_far n2 _).trans s2, (cell_far n3 _).trans s3⟩)
            clear z0 z1 y1 yg
            refine wp_region_held_drew (S := (fun W => W.cell? ⟨gL, 0, none⟩ = some (.slice (some ⟨gI, 0, none⟩) F.bl.length F.bl.length) ∧ W.cell? ⟨gL, 1, none⟩ = some (.slice (some ⟨gO, 0, none⟩) F.bl.length F.bl.length) ∧ W.cell? ⟨gl, 1, none⟩ = some (.slice (some ⟨gi, oi, none⟩) F.bl.length ci) ∧ W.cell? ⟨gi, oi + k, none⟩ = some (.pointer (some ⟨g, 0, none⟩)))) (by kernel_rfl) ?_ (fun hHeld => ?_)
            · exact HCL.out _ (drewB (Below.refl _ _))
            first
            | (refine wpAnyH_take (i := 0) (v := ?_) rfl (by kernel_rfl) (by kernel_rfl) (by kernel_rfl) (fun _ _ _ h => h) (Or.inl ⟨by rfl, ?_⟩) (by assumption) ?_
               rotate_left 1
               focus (intro w hSw; (try dsimp only at hSw); first | (go_simp; done) | (go_simp; with_reducible rfl))
               try simp only [Act.put, List.setIfInBounds_toArray, List.set_cons_zero, List.set_cons_succ, List.getElem_toArray, List.getElem_cons_succ, List.getElem_cons_zero])
            | (refine wpAnyH_take (i := 0) (v := undef) rfl (by kernel_rfl) (by kernel_rfl) (by kernel_rfl) (fun _ _ _ h => h) (Or.inr ⟨by rfl, rfl⟩) (by assumption) ?_
               try simp only [Act.put, List.setIfInBounds_toArray, List.set_cons_zero, List.set_cons_succ, List.getElem_toArray, List.getElem_cons_succ, List.getElem_cons_zero])
            first
            | (refine wpAnyH_take (i := 1) (v := ?_) rfl (by kernel_rfl) (by kernel_rfl) (by kernel_rfl) (fun _ _ _ h => h) (Or.inl ⟨by rfl, ?_⟩) (by assumption) ?_
               rotate_left 1
               focus (intro w hSw; (try dsimp only at hSw); first | (go_simp; done) | (go_simp; with_reducible rfl))
               try simp only [Act.put, List.setIfInBounds_toArray, List.set_cons_zero, List.set_cons_succ, List.getElem_toArray, List.getElem_cons_succ, List.getElem_cons_zero])
            | (refine wpAnyH_take (i := 1) (v := undef) rfl (by kernel_rfl) (by kernel_rfl) (by kernel_rfl) (fun _ _ _ h => h) (Or.inr ⟨by rfl, rfl⟩) (by assumption) ?_
               try simp only [Act.put, List.setIfInBounds_toArray, List.set_cons_zero, List.set_cons_succ, List.getElem_toArray, List.getElem_cons_succ, List.getElem_cons_zero])
            first
            | (refine wpAnyH_take (i := 2) (v := ?_) rfl (by kernel_rfl) (by kernel_rfl) (by kernel_rfl) (fun _ _ _ h => h) (Or.inl ⟨by rfl, ?_⟩) (by assumption) ?_
               rotate_left 1
               focus (intro w hSw; (try dsimp only at hSw); first | (go_simp; done) | (go_simp; with_reducible rfl))
               try simp only [Act.put, List.setIfInBounds_toArray, List.set_cons_zero, List.set_cons_succ, List.getElem_toArray, List.getElem_cons_succ, List.getElem_cons_zero])
            | (refine wpAnyH_take (i := 2) (v := undef) rfl (by kernel_rfl) (by kernel_rfl) (by kernel_rfl) (fun _ _ _ h => h) (Or.inr ⟨by rfl, rfl⟩) (by assumption) ?_
               try simp only [Act.put, List.setIfInBounds_toArray, List.set_cons_zero, List.set_cons_succ, List.getElem_toArray, List.getElem_cons_succ, List.getElem_cons_zero])
            first
            | (refine wpAnyH_take (i := 3) (v := ?_) rfl (by kernel_rfl) (by kernel_rfl) (by kernel_rfl) (fun _ _ _ h => h) (Or.inl ⟨by rfl, ?_⟩) (by assumption) ?_
               rotate_left 1
               focus (intro w hSw; (try dsimp only at hSw); first | (go_simp; done) | (go_simp; with_reducible rfl))
               try simp only [Act.put, List.setIfInBounds_toArray, List.set_cons_zero, List.set_cons_succ, List.getElem_toArray, List.getElem_cons_succ, List.getElem_cons_zero])
            | (refine wpAnyH_take (i := 3) (v := undef) rfl (by kernel_rfl) (by kernel_rfl) (by kernel_rfl) (fun _ _ _ h => h) (Or.inr ⟨by rfl, rfl⟩) (by assumption) ?_
               try simp only [Act.put, List.setIfInBounds_toArray, List.set_cons_zero, List.set_cons_succ, List.getElem_toArray, List.getElem_cons_succ, List.getElem_cons_zero])
            first
            | (refine wpAnyH_take (i := 4) (v := ?_) rfl (by kernel_rfl) (by kernel_rfl) (by kernel_rfl) (fun _ _ _ h => h) (Or.inl ⟨by rfl, ?_⟩) (by assumption) ?_
               rotate_left 1
               focus (intro w hSw; (try dsimp only at hSw); first | (go_simp; done) | (go_simp; with_reducible rfl))
               try simp only [Act.put, List.setIfInBounds_toArray, List.set_cons_zero, List.set_cons_succ, List.getElem_toArray, List.getElem_cons_succ, List.getElem_cons_zero])
            | (refine wpAnyH_take (i := 4) (v := undef) rfl (by kernel_rfl) (by kernel_rfl) (by kernel_rfl) (fun _ _ _ h => h) (Or.inr ⟨by rfl, rfl⟩) (by assumption) ?_
               try simp only [Act.put, List.setIfInBounds_toArray, List.set_cons_zero, List.set_cons_succ, List.getElem_toArray, List.getElem_cons_succ, List.getElem_cons_zero])
            first
            | (refine wpAnyH_take (i := 5) (v := ?_) rfl (by kernel_rfl) (by kernel_rfl) (by kernel_rfl) (fun _ _ _ h => h) (Or.inl ⟨by rfl, ?_⟩) (by assumption) ?_
               rotate_left 1
               focus (intro w hSw; (try dsimp only at hSw); first | (go_simp; done) | (go_simp; with_reducible rfl))
               try simp only [Act.put, List.setIfInBounds_toArray, List.set_cons_zero, List.set_cons_succ, List.getElem_toArray, List.getElem_cons_succ, List.getElem_cons_zero])
            | (refine wpAnyH_take (i := 5) (v := undef) rfl (by kernel_rfl) (by kernel_rfl) (by kernel_rfl) (fun _ _ _ h => h) (Or.inr ⟨by rfl, rfl⟩) (by assumption) ?_
               try simp only [Act.put, List.setIfInBounds_toArray, List.set_cons_zero, List.set_cons_succ, List.getElem_toArray, List.getElem_cons_succ, List.getElem_cons_zero])
            first
            | (refine wpAnyH_take (i := 6) (v := ?_) rfl (by kernel_rfl) (by kernel_rfl) (by kernel_rfl) (fun _ _ _ h => h) (Or.inl ⟨by rfl, ?_⟩) (by assumption) ?_
               rotate_left 1
               focus (intro w hSw; (try dsimp only at hSw); first | (go_simp; done) | (go_simp; with_reducible rfl))
               try simp only [Act.put, List.setIfInBounds_toArray, List.set_cons_zero, List.set_cons_succ, List.getElem_toArray, List.getElem_cons_succ, List.getElem_cons_zero])
            | (refine wpAnyH_take (i := 6) (v := undef) rfl (by kernel_rfl) (by kernel_rfl) (by kernel_rfl) (fun _ _ _ h => h) (Or.inr ⟨by rfl, rfl⟩) (by assumption) ?_
               try simp only [Act.put, List.setIfInBounds_toArray, List.set_cons_zero, List.set_cons_succ, List.getElem_toArray, List.getElem_cons_succ, List.getElem_cons_zero])
            first
            | (refine wpAnyH_take (i := 7) (v := ?_) rfl (by kernel_rfl) (by kernel_rfl) (by kernel_rfl) (fun _ _ _ h => h) (Or.inl ⟨by rfl, ?_⟩) (by assumption) ?_
               rotate_left 1
               focus (intro w hSw; (try dsimp only at hSw); first | (go_simp; done) | (go_simp; with_reducible rfl))
               try simp only [Act.put, List.setIfInBounds_toArray, List.set_cons_zero, List.set_cons_succ, List.getElem_toArray, List.getElem_cons_succ, List.getElem_cons_zero])
            | (refine wpAnyH_take (i := 7) (v := undef) rfl (by kernel_rfl) (by kernel_rfl) (by kernel_rfl) (fun _ _ _ h => h) (Or.inr ⟨by rfl, rfl⟩) (by assumption) ?_
               try simp only [Act.put, List.setIfInBounds_toArray, List.set_cons_zero, List.set_cons_succ, List.getElem_toArray, List.getElem_cons_succ, List.getElem_cons_zero])
            first
            | (refine wpAnyH_take (i := 8) (v := ?_) rfl (by kernel_rfl) (by kernel_rfl) (by kernel_rfl) (fun _ _ _ h => h) (Or.inl ⟨by rfl, ?_⟩) (by assumption) ?_
               rotate_left 1
               focus (intro w hSw; (try dsimp only at hSw); first | (go_simp; done) | (go_simp; with_reducible rfl))
               try simp only [Act.put, List.setIfInBounds_toArray, List.set_cons_zero, List.set_cons_succ, List.getElem_toArray, List.getElem_cons_succ, List.getElem_cons_zero])
            | (refine wpAnyH_take (i := 8) (v := undef) rfl (by kernel_rfl) (by kernel_rfl) (by kernel_rfl) (fun _ _ _ h => h) (Or.inr ⟨by rfl, rfl⟩) (by assumption) ?_
               try simp only [Act.put, List.setIfInBounds_toArray, List.set_cons_zero, List.set_cons_succ, List.getElem_toArray, List.getElem_cons_succ, List.getElem_cons_zero])
            first
            | (refine wpAnyH_take (i := 9) (v := ?_) rfl (by kernel_rfl) (by kernel_rfl) (by kernel_rfl) (fun _ _ _ h => h) (Or.inl ⟨by rfl, ?_⟩) (by assumption) ?_
               rotate_left 1
               focus (intro w hSw; (try dsimp only at hSw); first | (go_simp; done) | (go_simp; with_reducible rfl))
               try simp only [Act.put, List.setIfInBounds_toArray, List.set_cons_zero, List.set_cons_succ, List.getElem_toArray, List.getElem_cons_succ, List.getElem_cons_zero])
            | (refine wpAnyH_take (i := 9) (v := undef) rfl (by kernel_rfl) (by kernel_rfl) (by kernel_rfl) (fun _ _ _ h => h) (Or.inr ⟨by rfl, rfl⟩) (by assumption) ?_
               try simp only [Act.put, List.setIfInBounds_toArray, List.set_cons_zero, List.set_cons_succ, List.getElem_toArray, List.getElem_cons_succ, List.getElem_cons_zero])
            first
            | (refine wpAnyH_take (i := 10) (v := ?_) rfl (by kernel_rfl) (by kernel_rfl) (by kernel_rfl) (fun _ _ _ h => h) (Or.inl ⟨by rfl, ?_⟩) (by assumption) ?_
               rotate_left 1
               focus (intro w hSw; (try dsimp only at hSw); first | (go_simp; done) | (go_simp; with_reducible rfl))
               try simp only [Act.put, List.setIfInBounds_toArray, List.set_cons_zero, List.set_cons_succ, List.getElem_toArray, List.getElem_cons_succ, List.getElem_cons_zero])
            | (refine wpAnyH_take (i := 10) (v := undef) rfl (by kernel_rfl) (by kernel_rfl) (by kernel_rfl) (fun _ _ _ h => h) (Or.inr ⟨by rfl, rfl⟩) (by assumption) ?_
               try simp only [Act.put, List.setIfInBounds_toArray, List.set_cons_zero, List.set_cons_succ, List.getElem_toArray, List.getElem_cons_succ, List.getElem_cons_zero])
            first
            | (refine wpAnyH_take (i := 11) (v := ?_) rfl (by kernel_rfl) (by kernel_rfl) (by kernel_rfl) (fun _ _ _ h => h) (Or.inl ⟨by rfl, ?_⟩) (by assumption) ?_
               rotate_left 1
               focus (intro w hSw; (try dsimp only at hSw); first | (go_simp; done) | (go_simp; with_reducible rfl))
               try simp only [Act.put, List.setIfInBounds_toArray, List.set_cons_zero, List.set_cons_succ, List.getElem_toArray, List.getElem_cons_succ, List.getElem_cons_zero])
            | (refine wpAnyH_take (i := 11) (v := undef) rfl (by kernel_rfl) (by kernel_rfl) (by kernel_rfl) (fun _ _ _ h => h) (Or.inr ⟨by rfl, rfl⟩) (by assumption) ?_
               try simp only [Act.put, List.setIfInBounds_toArray, List.set_cons_zero, List.set_cons_succ, List.getElem_toArray, List.getElem_cons_succ, List.getElem_cons_zero])
            first
            | (refine wpAnyH_take (i := 12) (v := ?_) rfl (by kernel_rfl) (by kernel_rfl) (by kernel_rfl) (fun _ _ _ h => h) (Or.inl ⟨by rfl, ?_⟩) (by assumption) ?_
               rotate_left 1
               focus (intro w hSw; (try dsimp only at hSw); first | (go_simp; done) | (go_simp; with_reducible rfl))
               try simp only [Act.put, List.setIfInBounds_toArray, List.set_cons_zero, List.set_cons_succ, List.getElem_toArray, List.getElem_cons_succ, List.getElem_cons_zero])
            | (refine wpAnyH_take (i := 12) (v := undef) rfl (by kernel_rfl) (by kernel_rfl) (by kernel_rfl) (fun _ _ _ h => h) (Or.inr ⟨by rfl, rfl⟩) (by assumption) ?_
               try simp only [Act.put, List.setIfInBounds_toArray, List.set_cons_zero, List.set_cons_succ, List.getElem_toArray, List.getElem_cons_succ, List.getElem_cons_zero])
            first
            | (refine wpAnyH_take (i := 14) (v := ?_) rfl (by kernel_rfl) (by kernel_rfl) (by kernel_rfl) (fun _ _ _ h => h) (Or.inl ⟨by rfl, ?_⟩) (by assumption) ?_
               rotate_left 1
               focus (intro w hSw; (try dsimp only at hSw); first | (go_simp; done) | (go_simp; with_reducible rfl))
               try simp only [Act.put, List.setIfInBounds_toArray, List.set_cons_zero, List.set_cons_succ, List.getElem_toArray, List.getElem_cons_succ, List.getElem_cons_zero])
            | (refine wpAnyH_take (i := 14) (v := undef) rfl (by kernel_rfl) (by kernel_rfl) (by kernel_rfl) (fun _ _ _ h => h) (Or.inr ⟨by rfl, rfl⟩) (by assumption) ?_
               try simp only [Act.put, List.setIfInBounds_toArray, List.set_cons_zero, List.set_cons_succ, List.getElem_toArray, List.getElem_cons_succ, List.getElem_cons_zero])
            first
            | (refine wpAnyH_take (i := 15) (v := ?_) rfl (by kernel_rfl) (by kernel_rfl) (by kernel_rfl) (fun _ _ _ h => h) (Or.inl ⟨by rfl, ?_⟩) (by assumption) ?_
               rotate_left 1
               focus (intro w hSw; (try dsimp only at hSw); first | (go_simp; done) | (go_simp; with_reducible rfl))
               try simp only [Act.put, List.setIfInBounds_toArray, List.set_cons_zero, List.set_cons_succ, List.getElem_toArray, List.getElem_cons_succ, List.getElem_cons_zero])
            | (refine wpAnyH_take (i := 15) (v := undef) rfl (by kernel_rfl) (by kernel_rfl) (by kernel_rfl) (fun _ _ _ h => h) (Or.inr ⟨by rfl, rfl⟩) (by assumption) ?_
               try simp only [Act.put, List.setIfInBounds_toArray, List.set_cons_zero, List.set_cons_succ, List.getElem_toArray, List.getElem_cons_succ, List.getElem_cons_zero])
            refine wpAnyH_ready (rs := [13]) (by kernel_rfl) (by simp) ?_
            refine AllReadyH.cons rfl (fun K hK => ?_) AllReadyH.nil
            rw [if_pos (by rfl)]
            go_simp
            go_at_call 30; refine (HL1.out _ (drewB (Below.refl _ _))).mono ?_; rintro e w4 ⟨⟨v1, rfl, ho1⟩, hb4⟩; obtain ⟨A1, c1, rfl, -, -⟩ := ho1.form; have hB4 : Below wr.heap.size wr w4 := (drewB (Below.refl _ _)).trans (below_of_le hb4 (Nat.le_refl _)); have t1 := HCL.out _ hB4
            try go_wp2_with fail
            refine hK.out _ _ t1 (fun hHeld => ?_)
            clear hK K
            try simp only [Act.put, List.setIfInBounds_toArray, List.set_cons_zero, List.set_cons_succ, List.getElem_toArray, List.getElem_cons_succ, List.getElem_cons_zero]
            refine wpAnyH_ready (rs := [16]) (by kernel_rfl) (by simp) ?_
            refine AllReadyH.cons rfl (fun K hK => ?_) AllReadyH.nil
            rw [if_pos (by rfl)]
            go_simp
            go_at_call 31; refine (HEN.out _ hB4).mono ?_; rintro e w5 ⟨⟨g2, rfl, hge, hs2⟩, hb5⟩; have hB5 : Below wr.heap.size wr w5 := hB4.trans (below_of_le hb5 hB4.size); have t2 := HCL.out _ hB5
            try go_wp2_with fail
            refine hK.out _ _ t2 (fun hHeld => ?_)
            clear hK K
            try simp only [Act.put, List.setIfInBounds_toArray, List.set_cons_zero, List.set_cons_succ, List.getElem_toArray, List.getElem_cons_succ, List.getElem_cons_zero]
            refine wpAnyH_ready (rs := [17]) (by kernel_rfl) (by simp) ?_
            refine AllReadyH.cons rfl (fun K hK => ?_) AllReadyH.nil
            rw [if_pos (by rfl)]
            go_simp
            go_at_call 30; refine (HL2.out _ _ hB5 hs2).mono ?_; rintro e w6 ⟨⟨v2, rfl, ho2⟩, hb6⟩; obtain ⟨A2, c2, rfl, -, -⟩ := ho2.form; have hB6 : Below wr.heap.size wr w6 := hB5.trans (below_of_le hb6 hB5.size); have t3 := HCL.out _ hB6; obtain ⟨⟨x1, u1⟩, u2, ⟨x3, u3⟩, u4⟩ := HST.out _ hB6; have u5 : (w6.setCell ⟨gI, k, none⟩ (.slice A1 l1.length c1)).cell? ⟨gO, k, none⟩ = some x3 := (cell_far HNE.out.2.2.2.2.2.2 _).trans u3; have u6 : (w6.setCell ⟨gI, k, none⟩ (.slice A1 l1.length c1)).frozen? ⟨gO, k, none⟩ = false := by rw [World.frozen?_setCell]; exact u4
            try go_wp2_with fail
            refine hK.out _ _ t3 (fun hHeld => ?_)
            clear hK K
            try simp only [Act.put, List.setIfInBounds_toArray, List.set_cons_zero, List.set_cons_succ, List.getElem_toArray, List.getElem_cons_succ, List.getElem_cons_zero]
            first
            | (refine wpAnyH_take (i := 18) (v := ?_) rfl (by kernel_rfl) (by kernel_rfl) (by kernel_rfl) (fun _ _ _ h => h) (Or.inl ⟨by rfl, ?_⟩) (by assumption) ?_
               rotate_left 1
               focus (intro w hSw; (try dsimp only at hSw); first | (go_simp; done) | (go_simp; with_reducible rfl))
               try simp only [Act.put, List.setIfInBounds_toArray, List.set_cons_zero, List.set_cons_succ, List.getElem_toArray, List.getElem_cons_succ, List.getElem_cons_zero])
            | (refine wpAnyH_take (i := 18) (v := undef) rfl (by kernel_rfl) (by kernel_rfl) (by kernel_rfl) (fun _ _ _ h => h) (Or.inr ⟨by rfl, rfl⟩) (by assumption) ?_
               try simp only [Act.put, List.setIfInBounds_toArray, List.set_cons_zero, List.set_cons_succ, List.getElem_toArray, List.getElem_cons_succ, List.getElem_cons_zero])
            refine wpAnyH_ready (rs := [19]) (by kernel_rfl) (by simp) ?_
            refine AllReadyH.cons rfl (fun K hK => ?_) AllReadyH.nil
            rw [if_pos (by rfl)]
            go_simp
            have t4 := HSC.out w6 gI (.slice A1 l1.length c1) HNE.out.1 HNE.out.2.2.1 HNE.out.2.2.2.2.1 t3
            try go_wp2_with fail
            refine hK.out _ _ t4 (fun hHeld => ?_)
            clear hK K
            try simp only [Act.put, List.setIfInBounds_toArray, List.set_cons_zero, List.set_cons_succ, List.getElem_toArray, List.getElem_cons_succ, List.getElem_cons_zero]
            first
            | (refine wpAnyH_take (i := 20) (v := ?_) rfl (by kernel_rfl) (by kernel_rfl) (by kernel_rfl) (fun _ _ _ h => h) (Or.inl ⟨by rfl, ?_⟩) (by assumption) ?_
               rotate_left 1
               focus (intro w hSw; (try dsimp only at hSw); first | (go_simp; done) | (go_simp; with_reducible rfl))
               try simp only [Act.put, List.setIfInBounds_toArray, List.set_cons_zero, List.set_cons_succ, List.getElem_toArray, List.getElem_cons_succ, List.getElem_cons_zero])
            | (refine wpAnyH_take (i := 20) (v := undef) rfl (by kernel_rfl) (by kernel_rfl) (by kernel_rfl) (fun _ _ _ h => h) (Or.inr ⟨by rfl, rfl⟩) (by assumption) ?_
               try simp only [Act.put, List.setIfInBounds_toArray, List.set_cons_zero, List.set_cons_succ, List.getElem_toArray, List.getElem_cons_succ, List.getElem_cons_zero])
            refine wpAnyH_ready (rs := [21]) (by kernel_rfl) (by simp) ?_
            refine AllReadyH.cons rfl (fun K hK => ?_) AllReadyH.nil
            rw [if_pos (by rfl)]
            go_simp
            have t5 := HSC.out _ gO (.slice A2 l2.length c2) HNE.out.2.1 HNE.out.2.2.2.1 HNE.out.2.2.2.2.2.1 t4
            try go_wp2_with fail
            refine hK.out _ _ t5 (fun hHeld => ?_)
            clear hK K
            try simp only [Act.put, List.setIfInBounds_toArray, List.set_cons_zero, List.set_cons_succ, List.getElem_toArray, List.getElem_cons_succ, List.getElem_cons_zero]
            refine wpAnyH_done (by kernel_rfl) ?_ _
            have hBW := HW.out.bW
            have HN := Lib.hid ((HW.out.below hB6).put hlt HRB.out (by rw [HL0.out]; exact (ho1.below (hb5.trans (below_of_le hb6 hb5.size))).lower (by simp only [World.size_drew]; omega)) (ho2.lower (by have := hB5.size; omega)))
            clear hB4 hB5 hB6 hb4 hb5 hb6 ho1 ho2 hge hs2 HW HCL HSC HST HL1 HL2 HEN HNE u1 u2 u3 u4 u5 u6
            go_wp2_with fail
            go_roundw
            case rel => exact ⟨k + 1, by omega, by go_num, HN.out⟩
            case measure => simp [intOf]; omega
        · have hke : k = F.bl.length := by omega
          subst hke
          obtain ⟨tO, r1, r2, r3⟩ := HW.out.end_
          have z0 : wr.cell? ⟨gL, 0, none⟩ = some (.slice (some ⟨gI, 0, none⟩) F.bl.length F.bl.length) := (HW.out.lb.cell 0).trans rfl
          have z1 : wr.cell? ⟨gL, 1, none⟩ = some (.slice (some ⟨gO, 0, none⟩) F.bl.length F.bl.length) := (HW.out.lb.cell 1).trans rfl
          have f0 := HW.out.rb.frozen 0
          have f1 := HW.out.rb.frozen 1
          have c0 : wr.cell? ⟨w.heap.size + 1, 0, none⟩ = some (.slice none 0 0) := (HW.out.rb.cell 0).trans rfl
          have c1 : wr.cell? ⟨w.heap.size + 1, 1, none⟩ = some (.slice none 0 0) := (HW.out.rb.cell 1).trans rfl
          have HB2 := Lib.hid (HW.out.be.setCell (p := ⟨w.heap.size + 1, 0, none⟩) (Nat.le_succ _) (.slice (some ⟨gI, 0, none⟩) F.bl.length F.bl.length) |>.setCell (p := ⟨w.heap.size + 1, 1, none⟩) (Nat.le_succ _) (.slice (some ⟨gO, 0, none⟩) F.bl.length F.bl.length))
          have hB3 := (HW.out.rb.set_ 0 (.slice (some ⟨gI, 0, none⟩) F.bl.length F.bl.length)).set_ 1 (.slice (some ⟨gO, 0, none⟩) F.bl.length F.bl.length)
          have d0 := (hB3.cell 0).trans rfl
          have d1 := (hB3.cell 1).trans rfl
          have hkp : Keeps (fun q => q = w.heap.size + 1) wr ((wr.setCell ⟨w.heap.size + 1, 0, none⟩ (.slice (some ⟨gI, 0, none⟩) F.bl.length F.bl.length)).setCell ⟨w.heap.size + 1, 1, none⟩ (.slice (some ⟨gO, 0, none⟩) F.bl.length F.bl.length)) := ((Keeps.refl (fun q => q = w.heap.size + 1) wr).setCell (p := ⟨w.heap.size + 1, 0, none⟩) (Or.inr rfl) _).setCell (p := ⟨w.heap.size + 1, 1, none⟩) (Or.inr rfl) _
          have hI := HW.out.bI
          have hO := HW.out.bO
          have hwB := HW.out.wB
          have HR := Lib.hid (And.intro (r1.other hkp HW.out.rb (by decide) (by omega)) (r2.other hkp HW.out.rb (by decide) (by omega)))
          clear HW r1 r2 hB3 hkp
          go_wp2_with fail
          refine bodyPost_ret (v := .tuple #[.agg #[.slice (some ⟨gI, 0, none⟩) F.bl.length F.bl.length, .slice (some ⟨gO, 0, none⟩) F.bl.length F.bl.length], .int .i64 0]) (by simp [results, Tryz.results10, go_sem, d0, d1]) rfl ⟨Or.inr ⟨HB.out, gI, gO, rfl, ⟨_, HR.out.1⟩, by omega, ⟨_, tO, HR.out.2, r3⟩, HLL.out⟩, HB2.out⟩
end Go.Proofs.YtlmoblmkhicoeaaGreatDoor
