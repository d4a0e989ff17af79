/- Walks: flow.Edges. Conditions: the table of keywords; small parts. Walks: twice.looked. Conditions: the tables; small parts. -/
import Derived.Test.YtlmoblmkhicoeaaGreatDoorE3
import Derived.Test.YtlmoblmkhicoeaaGreatDoorF7
import Derived.Deep.DeepCutAuto
import Derived.Test.YtlmoblmkhicoeaaGreatDoorW2
import Derived.Test.YtlmoblmkhicoeaaGreatDoorH4
import Derived.Test.YtlmoblmkhicoeaaGreatDoorF5
set_option linter.unusedVariables false
set_option linter.unusedSimpArgs false
namespace Go.Proofs.YtlmoblmkhicoeaaGreatDoor
open Go.RowKit
theorem blk2a (w : World) (t : TypeId) (cs : Array Value) (b : Obj) : Blk ((w.alloc (.cells cs t)).alloc b).drew w.heap.size t cs := ((Blk.new w t cs).alloc b).drew
theorem blk2b (w : World) (t : TypeId) (cs : Array Value) (a : Obj) : Blk ((w.alloc a).alloc (.cells cs t)).drew (w.heap.size + 1) t cs := (blk_at (w := w.alloc a) (by simp [World.size_alloc]) t cs).drew
theorem onceL_two (x : Ex) : (onceL (exT x)).length ≤ 2 := Nat.le_trans (onceL_len _) (exT_len x)
set_option maxRecDepth 100000 in
set_option maxHeartbeats 4000000 in
theorem edges_any (F : Fn) (sv bv : Value) (w : World) (h : FnIn w F sv bv) :
    Calls Tryz.prog 35 #[fnv F sv bv] w fun e w' => (fnB F = false ∧ e = .returned (.tuple #[.slice none 0 0, .slice none 0 0, errV F]) ∨ fnB F = true ∧ ∃ gO A n c, e = .returned (.tuple #[.slice (some ⟨gO, 0, none⟩) F.bl.length F.bl.length, .slice A n c, .int .i64 0]) ∧ (∃ B, RRow w' B gO (edgL F)) ∧ w.heap.size ≤ gO) ∧ Below w.heap.size w w' := by
  obtain ⟨A, c, rfl, h1, h2⟩ := h.bl.form
  obtain ⟨As, cs, rfl, -, -⟩ := RowOf.form h.sl
  unfold maxLen at h2
  have hb1 := below1 w (.cells #[.string F.nm, .int .i64 F.ps, .int .i64 F.rs, .slice As F.sl.length cs, .slice A F.bl.length c] 25)
  have HD := Lib.hid (drawn_any F (.slice As F.sl.length cs) (.slice A F.bl.length c) _ (h.below hb1))
  have HE := Lib.hid (show fnB F = false → errV F = .int .i64 180 from fun hb => by rw [errV, hb]; rfl)
  have HB0 := Lib.hid hb1
  clear h hb1
  unfold fnv at HD
  unfold fnv
  go_enter Tryz.func35, Tryz.ntmps35
  go_wp2_with fail
  refine HD.out.mono ?_
  rintro e w1 ⟨⟨hb, rfl⟩ | ⟨hb, gg, rfl, hgr⟩, hb1⟩
  · have hb2 := Lib.hid (HB0.out.trans (below_of_le hb1 HB0.out.size))
    have HB := Lib.hid hb
    rw [HE.out hb]
    clear hb hb1
    go_wp2_with fail
    refine bodyPost_ret (v := .tuple #[.slice none 0 0, .slice none 0 0, .int .i64 180]) (by simp [results, Tryz.results35, go_sem]) rfl ⟨Or.inl ⟨HB.out, by rw [HE.out HB.out]⟩, hb2.out⟩
  · obtain ⟨hge, tov, gr, hg, how, hbr, hggr⟩ := hgr
    have hok := fnB_ok hb
    have hto := how.to
    obtain ⟨tl, htl⟩ : ∃ tl, toL F = tl := ⟨_, rfl⟩
    have hn : tl.length = F.bl.length := by rw [← htl, toL_len]
    have hn1 : 1 ≤ tl.length := by rw [hn]; exact hok.b1
    have hn2 : tl.length ≤ 4096 := by rw [hn]; exact hok.b2
    have HX := Lib.hid (show ∀ l ∈ tl, l.length ≤ 2 ∧ ∀ t ∈ l, 0 ≤ t ∧ t < (tl.length : Int) from by
      intro l hl
      rw [← htl] at hl
      obtain ⟨b, hbm, rfl⟩ := List.mem_map.1 hl
      refine ⟨onceL_two _, fun t ht => ?_⟩
      have := exB_to (hok.ex b hbm) t (mem_onceL.1 ht)
      rw [hn]
      omega)
    rw [htl] at hto
    have HTL := Lib.hid (And.intro htl hn)
    have HB := Lib.hid hb
    have HB2 := Lib.hid (HB0.out.trans (below_of_le hb1 HB0.out.size))
    have HTO := Lib.hid hto
    obtain ⟨At, ct, rfl, t1, t2⟩ := hto.form
    unfold maxLen at t2
    have g5 : w1.cell? ⟨gg, 5, none⟩ = some (.slice At tl.length ct) := (hg.cell 5).trans rfl
    have HGG := Lib.hid (show gg < w1.heap.size from hg.lt)
    have HG5 := Lib.hid g5
    have HMK := Lib.hid (fun W => make_rows tl.length (by omega) W)
    clear hb hb1 hge hg how hbr hggr hto hok htl hn
    go_upto_region 4 with fail
    go_cut [7, 8] from 13 to 32 (fun s7 s8 wx => ∃ gO gB, s7 = .slice (some ⟨gO, 0, none⟩) tl.length tl.length ∧ s8 = .slice (some ⟨gB, 0, none⟩) tl.length tl.length ∧ Hid (∃ co cb, EdC w1 tl gO gB 0 0 co cb wx))
    case first =>
      have hmk := HMK.out
      have f4a := fun o => cell_al g5 o
      have f4b := fun o o2 => cell_al (cell_al g5 o) o2
      go_region
      all_goals
        go_wp2_with fail
        go_meet
        exact ⟨_, _, rfl, rfl, _, _, EdC.start (drewB (((Below.refl _ _).alloc (Nat.le_refl _) _).alloc (by simp only [World.size_alloc]; omega) _))
          (by first | exact blk2a _ _ _ _ | exact blk2b _ _ _ _)
          (by first | exact blk2a _ _ _ _ | exact blk2b _ _ _ _) (by omega) (by omega) (by omega)⟩
    case rest =>
      obtain ⟨gO, gB, rfl, rfl, HW0⟩ := hcut
      have g5c : wc.cell? ⟨gg, 5, none⟩ = some (.slice At tl.length ct) := by
        obtain ⟨co, cb, hE⟩ := HW0.out
        exact (hE.be.cell (p := ⟨gg, 5, none⟩) HGG.out).trans HG5.out
      clear g5
      go_wp2_with fail
      go_loopw [38] (fun i wr => ∃ k : Nat, k ≤ tl.length ∧ i = .int .i64 k ∧ Hid (∃ co cb, EdC w1 tl gO gB k (2 * k) co cb wr)) (fun i _ => tl.length - (intOf i).toNat)
      case atStart => exact ⟨0, Nat.zero_le _, rfl, HW0.out⟩
      case round =>
        clear HW0 g5c
        obtain ⟨k, hk, rfl, HW⟩ := hrel
        by_cases hlt : k < tl.length
        · obtain ⟨co, cb, hE⟩ := HW.out
          obtain ⟨gt, ot, cap', ea, h3, h4, hg, hcc⟩ := HTO.out.open_ (by omega)
          cases ea
          obtain ⟨v, d00, hv⟩ := hcc k hlt
          have d0 := (hE.be.cell (p := ⟨gt, ot + k, none⟩) hg).trans d00
          obtain ⟨Al, cl, rfl, q1, q2⟩ := hv.form
          unfold maxLen at q2
          obtain ⟨l, hl⟩ : ∃ l, tl[k] = l := ⟨_, rfl⟩
          have hlx := HX.out l (by rw [← hl]; exact List.getElem_mem hlt)
          have hlg : tl.getD k [] = l := by simp [hlt, hl]
          rw [hl] at hv d0 q1
          obtain ⟨hl2, hlt2⟩ := hlx
          have HLT := Lib.hid hlt2
          have HLG := Lib.hid hlg
          have HV := Lib.hid hv
          have HE2 := Lib.hid (show ∃ co cb, EdC w1 tl gO gB k (2 * k + 0) co cb wr from ⟨co, cb, hE⟩)
          clear hE hv hl hlt2 hlg HW hcc d00
          go_wp2_with fail
          go_loopw [45] (fun i wq => ∃ j : Nat, j ≤ l.length ∧ i = .int .i64 j ∧ Hid (∃ co cb, EdC w1 tl gO gB k (2 * k + j) co cb wq) ) (fun i _ => l.length - (intOf i).toNat)
          case atStart => exact ⟨0, Nat.zero_le _, rfl, HE2.out⟩
          case round =>
            clear HE2 d0
            obtain ⟨j, hj, rfl, HQ⟩ := hrel
            obtain ⟨co, cb, hE⟩ := HQ.out
            by_cases hjt : j < l.length
            · obtain ⟨gl, ol, cl', ea, y3, y4, yg, ycc⟩ := HV.out.open_ (Nat.lt_of_le_of_lt (Nat.zero_le _) hjt)
              cases ea
              have c0 := (hE.be.cell (p := ⟨gl, ol + j, none⟩) yg).trans (ycc j hjt)
              have htt := HLT.out l[j] (List.getElem_mem hjt)
              obtain ⟨t, ht⟩ : ∃ t : Nat, l[j] = (t : Int) := ⟨l[j].toNat, by omega⟩
              rw [ht] at c0 htt
              have htn : t < tl.length := by omega
              obtain ⟨A1, n1, c1, A2, n2, c2, W1, b0, hap, ⟨b1, b2⟩, hN⟩ := hE.push t htn (by omega) (k : Int) 34
              have HAP := Lib.hid hap
              have HN := Lib.hid (show ∃ co cb, EdC w1 tl gO gB k (2 * k + (j + 1)) co cb (W1.setCell ⟨gB, t, none⟩ (.slice A2 n2 c2)) from ⟨co, hN⟩)
              clear hap hN hE HQ ht htt ycc
              go_wp2_with (at_builtin; refine wpList_append_eq rfl (.tmp 54) (.tmp 56) 34 rfl rfl rfl HAP.out ?_)
              go_roundw
              case rel => exact ⟨j + 1, by omega, by go_num, HN.out⟩
              case measure => simp [intOf]; omega
            · have hje : j = l.length := by omega
              subst hje
              have HVA := Lib.hid (values_any Al l.length cl wr)
              have hal := below1 wr (.cells #[.slice Al l.length cl] 34)
              have HSO := Lib.hid (sorted_any wr.heap.size l (.slice Al l.length cl) (wr.alloc (.cells #[.slice Al l.length cl] 34)) (by omega) (by simp [World.size_alloc]) (((Blk.new wr 34 #[.slice Al l.length cl]).cell 0).trans rfl) ((HV.out.below hE.be).below hal))
              have HE := Lib.hid hE
              have HAL := Lib.hid hal
              clear hE HQ hal
              go_wp2_with fail
              refine HVA.out.mono ?_
              rintro e w3 ⟨rfl, rfl⟩
              go_wp2_with fail
              refine HSO.out.mono ?_
              rintro e w4 ⟨⟨v, rfl, ho⟩, hb4⟩
              have hB4 : Below wr.heap.size wr w4 := HAL.out.trans (below_of_le hb4 HAL.out.size)
              have hE4 := HE.out.below hB4
              obtain ⟨Av, cv, rfl, -, -⟩ := ho.form
              have e0 : ∃ u, w4.cell? ⟨gO, k, none⟩ = some u := ⟨_, (hE4.o.cell k).trans (Array.getElem?_eq_getElem (by rw [hE4.on]; exact hlt))⟩
              obtain ⟨u0, e0⟩ := e0
              have e1 := hE4.o.frozen k
              have HN := Lib.hid (show ∃ co cb, EdC w1 tl gO gB (k + 1) (2 * (k + 1)) co cb (w4.setCell ⟨gO, k, none⟩ (.slice Av (sortL l).length cv)) from by
                obtain ⟨co', h⟩ := HE.out.put hB4 hlt (v := .slice Av (sortL l).length cv) (by rw [HLG.out]; exact ho.lower (by simp [World.size_alloc]))
                exact ⟨co', cb, h.mono (by omega)⟩)
              obtain ⟨sl, hsl⟩ : ∃ sl, sortL l = sl := ⟨_, rfl⟩
              rw [hsl] at HN ⊢
              clear hE4 ho hb4 hB4 HE HSO HVA HAL hsl
              go_wp2_with fail
              go_roundw
              case rel => exact ⟨k + 1, by omega, by go_num, HN.out⟩
              case measure => simp [intOf]; omega
        · have hke : k = tl.length := by omega
          subst hke
          obtain ⟨co, cb, hE⟩ := HW.out
          have HN := Lib.hid (show tl.length = F.bl.length ∧ (∃ B, RRow wr B gO (edgL F)) ∧ w.heap.size ≤ gO ∧ Below w.heap.size w wr from by
            refine ⟨HTL.out.2, ⟨w1.heap.size, ?_⟩, Nat.le_trans HB2.out.size hE.bO, HB2.out.trans (below_of_le hE.be HB2.out.size)⟩
            obtain ⟨e1, e2⟩ := HTL.out
            subst e1
            rw [e2] at hE
            exact hE.end_)
          clear hE HW
          go_wp2_with fail
          refine bodyPost_ret (v := .tuple #[.slice (some ⟨gO, 0, none⟩) tl.length tl.length, .slice (some ⟨gB, 0, none⟩) tl.length tl.length, .int .i64 0]) (by simp [results, Tryz.results35, go_sem]) rfl ⟨Or.inr ⟨HB.out, gO, _, _, _, by rw [← HN.out.1], HN.out.2.1, HN.out.2.2.1⟩, HN.out.2.2.2⟩
end Go.Proofs.YtlmoblmkhicoeaaGreatDoor
namespace Go.Proofs.YtlmoblmkhicoeaaGreatDoor
open Go.RowKit
def psA (F : Fn) (sv bv rv tov inv ouv : Value) : Array Value := #[.string F.nm, .int .i64 F.ps, .int .i64 F.rs, sv, bv, rv, tov, inv, ouv]
/-- A pass as looked hands it back. -/
structure PassAt (W : World) (gp : Nat) (F : Fn) (sv bv rv tov inv ouv : Value) : Prop where
  pb : Blk W gp 73 (psA F sv bv rv tov inv ouv)
  rc : Bools W rv (rchL F)
  ed : ToAt W tov (edgL F)
  li : ToAt W inv (liveIn F)
  fi : FnIn W F sv bv
  ok : FnOk F
  ll : ∀ l ∈ liveIn F, l.length ≤ 4096 ∧ ∀ r ∈ l, 0 ≤ r ∧ r < F.rs
theorem PassAt.below {W W' : World} {gp : Nat} {F : Fn} {sv bv rv tov inv ouv : Value} (h : PassAt W gp F sv bv rv tov inv ouv) (hb : Below W.heap.size W W') : PassAt W' gp F sv bv rv tov inv ouv :=
  ⟨h.pb.below hb h.pb.lt, h.rc.below hb, h.ed.below hb, h.li.below hb, h.fi.below hb, h.ok, h.ll⟩
theorem edgL_len (F : Fn) : (edgL F).length = F.bl.length := by simp [edgL, toL_len]
theorem five {W : World} {g : Nat} {t : TypeId} {a b c d e : Value} (h : Blk W g t #[a, b, c, d, e]) : W.cell? ⟨g, 0, none⟩ = some a ∧ W.cell? ⟨g, 1, none⟩ = some b ∧ W.cell? ⟨g, 2, none⟩ = some c ∧ W.cell? ⟨g, 3, none⟩ = some d ∧ W.cell? ⟨g, 4, none⟩ = some e :=
  ⟨(h.cell 0).trans rfl, (h.cell 1).trans rfl, (h.cell 2).trans rfl, (h.cell 3).trans rfl, (h.cell 4).trans rfl⟩
theorem below_far {B g j : Nat} {w W : World} (h : Below B w W) (hg : B ≤ g) (u : Value) : Below B w (W.setCell ⟨g, j, none⟩ u) := h.setCell (p := ⟨g, j, none⟩) hg u
theorem ps5 {W : World} {gp : Nat} {F : Fn} {sv bv a b c d : Value} (h : Blk W gp 73 (psA F sv bv a b c d)) (u : Value) : Blk (W.setCell ⟨gp, 5, none⟩ u) gp 73 (psA F sv bv u b c d) := h.set_ 5 u
theorem ps6 {W : World} {gp : Nat} {F : Fn} {sv bv a b c d : Value} (h : Blk W gp 73 (psA F sv bv a b c d)) (u : Value) : Blk (W.setCell ⟨gp, 6, none⟩ u) gp 73 (psA F sv bv a u c d) := h.set_ 6 u
theorem ps78 {W : World} {gp : Nat} {F : Fn} {sv bv a b c d : Value} (h : Blk W gp 73 (psA F sv bv a b c d)) (u v : Value) : Blk ((W.setCell ⟨gp, 7, none⟩ u).setCell ⟨gp, 8, none⟩ v) gp 73 (psA F sv bv a b u v) := (h.set_ 7 u).set_ 8 v
theorem ToAt.keeps {W W' : World} {G : Nat → Prop} {v : Value} {tl : List (List Int)} (h : ToAt W v tl) (hk : Keeps G W W') (hv : ∀ g, v.ownBlock = some g → ¬ G g) (hi : ∀ u l, l ∈ tl → Ints W u l → Ints W' u l) : ToAt W' v tl := by
  obtain ⟨vs, h1, h2, h3⟩ := h
  exact ⟨vs, h1, h2.keeps hk hv, fun i a b => hi _ _ (List.getElem_mem a) (h3 i a b)⟩
set_option maxRecDepth 100000 in
set_option maxHeartbeats 4000000 in
theorem looked_any (F : Fn) (sv bv : Value) (w : World) (h : FnIn w F sv bv) (ht : TzAt w) :
    Calls Tryz.prog 16 #[fnv F sv bv] w fun e w' => (fnB F = false ∧ e = .returned (.tuple #[.pointer none, errV F]) ∨ fnB F = true ∧ ∃ gp rv tov inv ouv, e = .returned (.tuple #[.pointer (some ⟨gp, 0, none⟩), .int .i64 0]) ∧ PassAt w' gp F sv bv rv tov inv ouv) ∧ Below w.heap.size w w' := by
  obtain ⟨A, c, rfl, h1, h2⟩ := h.bl.form
  obtain ⟨As, cs, rfl, -, -⟩ := RowOf.form h.sl
  unfold maxLen at h2
  have hb1 := below1 w (.cells #[.string F.nm, .int .i64 F.ps, .int .i64 F.rs, .slice As F.sl.length cs, .slice A F.bl.length c] 25)
  have HBX := Lib.hid (And.intro (Blk.new w 25 #[.string F.nm, .int .i64 F.ps, .int .i64 F.rs, .slice As F.sl.length cs, .slice A F.bl.length c]) hb1)
  have HCK := Lib.hid (check_any F (.slice As F.sl.length cs) (.slice A F.bl.length c) _ (h.below hb1))
  have HE := Lib.hid (show errV F = .int .i64 (if fnB F then 0 else 180) from rfl)
  have HI := Lib.hid (And.intro h ht)
  clear h hb1 ht
  unfold fnv at HCK
  unfold fnv
  go_enter Tryz.func16, Tryz.ntmps16
  go_wp2_with fail
  refine HCK.out.mono ?_
  rintro e w1 ⟨rfl, hb1⟩
  have hB1 := HBX.out.2.trans (below_of_le hb1 HBX.out.2.size)
  have hX1 := HBX.out.1.below hb1 HBX.out.1.lt
  rw [HE.out]
  cases hf : fnB F with
  | false =>
    have HB := Lib.hid (And.intro hf hB1)
    clear hb1 hB1 hX1 hf
    simp only [Bool.false_eq_true, if_false]
    go_wp2_with fail
    refine bodyPost_ret (v := .tuple #[.pointer none, .int .i64 180]) (by simp [results, Tryz.results16, go_sem]) rfl ⟨Or.inl ⟨HB.out.1, by rw [HE.out, HB.out.1]; rfl⟩, HB.out.2⟩
  | true =>
    simp only [if_true]
    have hok := fnB_ok hf
    have hn1 := hok.b1
    have hn2 := hok.b2
    have HF := Lib.hid hf
    obtain ⟨gp, hgp⟩ : ∃ gp, w1.heap.size = gp := ⟨_, rfl⟩
    have hal := below1 w1 (.cells #[.string F.nm, .int .i64 F.ps, .int .i64 F.rs, .slice As F.sl.length cs, .slice A F.bl.length c, .slice none 0 0, .slice none 0 0, .slice none 0 0, .slice none 0 0] 73)
    have HP0 := Lib.hid (And.intro (show Blk (w1.alloc (.cells #[.string F.nm, .int .i64 F.ps, .int .i64 F.rs, .slice As F.sl.length cs, .slice A F.bl.length c, .slice none 0 0, .slice none 0 0, .slice none 0 0, .slice none 0 0] 73)) gp 73 (psA F (.slice As F.sl.length cs) (.slice A F.bl.length c) (.slice none 0 0) (.slice none 0 0) (.slice none 0 0) (.slice none 0 0)) from by rw [← hgp]; exact Blk.new _ _ _) (And.intro (hX1.below hal hX1.lt) (hB1.trans (below_of_le hal hB1.size))))
    have HGP := Lib.hid (show w.heap.size < gp from by rw [← hgp]; exact hX1.lt)
    have HRE := Lib.hid (reached_any F (.slice As F.sl.length cs) (.slice A F.bl.length c) _ (HI.out.1.below HP0.out.2.2))
    unfold fnv at HRE
    clear hb1 hB1 hf hok hal
    obtain ⟨x0, x1, x2, x3, x4⟩ := five HP0.out.2.1
    have HXX := Lib.hid (five hX1)
    clear hX1
    obtain ⟨z0, z1, z2, z3, z4⟩ := HXX.out
    go_wp2_with fail
    refine HRE.out.mono ?_
    rintro e w2 ⟨⟨hf0, -⟩ | ⟨-, gr, rfl, hbr, hgr⟩, hb2⟩
    · rw [HF.out] at hf0; cases hf0
    have hp2 := HP0.out.1.below hb2 HP0.out.1.lt
    have hx2 := HP0.out.2.1.below hb2 HP0.out.2.1.lt
    have hB2 := HP0.out.2.2.trans (below_of_le hb2 HP0.out.2.2.size)
    have f5 := hp2.frozen 5
    have p5 : w2.cell? ⟨gp, 5, none⟩ = some (.slice none 0 0) := (hp2.cell 5).trans rfl
    have hgrp : gp < gr := by have := HP0.out.1.lt; omega
    have k5 : Keeps (fun q => q = gp) w2 (w2.setCell ⟨gp, 5, none⟩ (.slice (some ⟨gr, 0, none⟩) F.bl.length F.bl.length)) := (Keeps.refl (fun q => q = gp) w2).setCell (p := ⟨gp, 5, none⟩) (Or.inr rfl) _
    have HP2 := Lib.hid (And.intro (ps5 hp2 (.slice (some ⟨gr, 0, none⟩) F.bl.length F.bl.length)) (And.intro (hx2.keeps k5 (by have := HGP.out; omega)) (And.intro (below_far (g := gp) (j := 5) hB2 (by have := HGP.out; omega) (.slice (some ⟨gr, 0, none⟩) F.bl.length F.bl.length)) (hbr.keeps k5 (by omega)))))
    have HED := Lib.hid (edges_any F (.slice As F.sl.length cs) (.slice A F.bl.length c) _ (HI.out.1.below HP2.out.2.2.1))
    unfold fnv at HED
    obtain ⟨y0, y1, y2, y3, y4⟩ := five HP2.out.2.1
    clear hp2 hx2 hB2 k5 hbr hb2 hgr x0 x1 x2 x3 x4 z0 z1 z2 z3 z4 HRE HCK
    go_wp2_with fail
    refine HED.out.mono ?_
    rintro e w3 ⟨⟨hf0, -⟩ | ⟨-, gE, Ab, nb, cb, rfl, ⟨BE, hre⟩, hgE⟩, hb3⟩
    · rw [HF.out] at hf0; cases hf0
    have hgpl := HP2.out.1.lt
    have hp3 := HP2.out.1.below hb3 hgpl
    have hx3 := HP2.out.2.1.below hb3 HP2.out.2.1.lt
    have hB3 := HP2.out.2.2.1.trans (below_of_le hb3 HP2.out.2.2.1.size)
    have hr3 := HP2.out.2.2.2.below hb3
    have f6 := hp3.frozen 6
    have p6 : w3.cell? ⟨gp, 6, none⟩ = some (.slice none 0 0) := (hp3.cell 6).trans rfl
    have k6 : Keeps (fun q => q = gp) w3 (w3.setCell ⟨gp, 6, none⟩ (.slice (some ⟨gE, 0, none⟩) F.bl.length F.bl.length)) := (Keeps.refl (fun q => q = gp) w3).setCell (p := ⟨gp, 6, none⟩) (Or.inr rfl) _
    have HP3 := Lib.hid (And.intro (ps6 hp3 (.slice (some ⟨gE, 0, none⟩) F.bl.length F.bl.length)) (And.intro (hx3.keeps k6 (by have := HGP.out; omega)) (And.intro (below_far (g := gp) (j := 6) hB3 (by have := HGP.out; omega) (.slice (some ⟨gE, 0, none⟩) F.bl.length F.bl.length)) (And.intro (hr3.keeps k6 (by omega)) (hre.other k6 hp3 (by decide) (by omega))))))
    have HLV := Lib.hid (live_any F (.slice As F.sl.length cs) (.slice A F.bl.length c) _ (HI.out.1.below HP3.out.2.2.1) (HI.out.2.below HP3.out.2.2.1))
    unfold fnv at HLV
    obtain ⟨v0, v1, v2, v3, v4⟩ := five HP3.out.2.1
    have hgE2 : gp < gE := by omega
    clear hp3 hx3 hB3 hr3 k6 hre hb3 hgE y0 y1 y2 y3 y4 HED hgpl HP2
    go_wp2_with fail
    refine HLV.out.mono ?_
    rintro e w4 ⟨⟨hf0, -⟩ | ⟨-, gI, gO, rfl, ⟨BI, hri⟩, hgI, ⟨BO, tO, hro, htO⟩, hll⟩, hb4⟩
    · rw [HF.out] at hf0; cases hf0
    have hgpl := HP3.out.1.lt
    have hp4 := HP3.out.1.below hb4 hgpl
    have hB4 := HP3.out.2.2.1.trans (below_of_le hb4 HP3.out.2.2.1.size)
    have hr4 := HP3.out.2.2.2.1.below hb4
    have he4 := HP3.out.2.2.2.2.below hb4
    have f7 := hp4.frozen 7
    have f8 := hp4.frozen 8
    have p7 : w4.cell? ⟨gp, 7, none⟩ = some (.slice none 0 0) := (hp4.cell 7).trans rfl
    have p8 : w4.cell? ⟨gp, 8, none⟩ = some (.slice none 0 0) := (hp4.cell 8).trans rfl
    have k7 : Keeps (fun q => q = gp) w4 ((w4.setCell ⟨gp, 7, none⟩ (.slice (some ⟨gI, 0, none⟩) F.bl.length F.bl.length)).setCell ⟨gp, 8, none⟩ (.slice (some ⟨gO, 0, none⟩) F.bl.length F.bl.length)) := ((Keeps.refl (fun q => q = gp) w4).setCell (p := ⟨gp, 7, none⟩) (Or.inr rfl) _).setCell (p := ⟨gp, 8, none⟩) (Or.inr rfl) _
    have hB5 := below_far (g := gp) (j := 8) (below_far (g := gp) (j := 7) hB4 (by have := HGP.out; omega) (.slice (some ⟨gI, 0, none⟩) F.bl.length F.bl.length)) (by have := HGP.out; omega) (.slice (some ⟨gO, 0, none⟩) F.bl.length F.bl.length)
    have HP4 := Lib.hid (show PassAt ((w4.setCell ⟨gp, 7, none⟩ (.slice (some ⟨gI, 0, none⟩) F.bl.length F.bl.length)).setCell ⟨gp, 8, none⟩ (.slice (some ⟨gO, 0, none⟩) F.bl.length F.bl.length)) gp F (.slice As F.sl.length cs) (.slice A F.bl.length c) (.slice (some ⟨gr, 0, none⟩) F.bl.length F.bl.length) (.slice (some ⟨gE, 0, none⟩) F.bl.length F.bl.length) (.slice (some ⟨gI, 0, none⟩) F.bl.length F.bl.length) (.slice (some ⟨gO, 0, none⟩) F.bl.length F.bl.length) from
      ⟨ps78 hp4 _ _, (hr4.keeps k7 (by omega)).bools (fnB_ok HF.out).rch.1 (by unfold maxLen; omega), (he4.other k7 hp4 (by decide) (by omega)).to (edgL_len F) (by unfold maxLen; omega), (hri.other k7 hp4 (by decide) (by omega)).to (liveIn_len F) (by unfold maxLen; omega), HI.out.1.below hB5, fnB_ok HF.out, hll⟩)
    have HB5 := Lib.hid hB5
    clear hp4 hB4 hr4 he4 k7 hB5 hri hro hb4 hgI v0 v1 v2 v3 v4 HLV hgpl HP3
    go_wp2_with fail
    refine bodyPost_ret (v := .tuple #[.pointer (some ⟨gp, 0, none⟩), .int .i64 0]) (by simp [results, Tryz.results16, go_sem]) rfl ⟨Or.inr ⟨HF.out, gp, _, _, _, _, rfl, HP4.out⟩, HB5.out⟩
end Go.Proofs.YtlmoblmkhicoeaaGreatDoor
