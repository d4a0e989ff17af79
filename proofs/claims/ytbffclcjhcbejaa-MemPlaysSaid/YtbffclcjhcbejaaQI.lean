/- Walk: MemPlays answers true. Conditions: the slices read as such, within the reach of one slice. -/
import Derived.Test.YtbffclcjhcbejaaQH
namespace Go.Proofs.Ytbffclcjhcbejaa
open Go.RowKit
theorem RefAt.l_kind {w : World} {bm g : Nat} {ns : List Area} (h : RefAt w bm ns) (hg : lBlk w bm = some g) : ∃ cur, Blk w g 30 cur := by
  obtain ⟨lv, nv, wv, hb, hl, hn, hw, hd⟩ := h.top
  have : w.cell? ⟨bm, 0, none⟩ = some lv := by rw [hb.cell]; rfl
  unfold lBlk at hg
  rw [this] at hg
  exact owns_kind hl hg
/-- A block of ranges that is none of its own is turned. -/
theorem RefAt.keeps30 {w w' : World} {bm go : Nat} {ns : List Area} {cs : Array Value} (h : RefAt w bm ns) (k : Keeps (· = go) w w') (hb : Blk w go 30 cs) (hl : lBlk w bm ≠ some go) : RefAt w' bm ns := by
  obtain ⟨lv, nv, wv, ht, hlr, hn, hw, hd⟩ := h.top
  have hT : ∀ {b : Nat} {t : TypeId} {c : Array Value}, Blk w b t c → t ≠ 30 → ¬ (b = go) := fun h1 h2 => h1.ne_ hb h2
  refine ⟨⟨lv, nv, wv, ht.keeps k (hT ht (by decide)), ownsRow_keeps hlr k (fun g hg e => ?_), ownsRow_keeps hn k (fun g hg => ?_), ownsRow_keeps hw k (fun g hg => ?_), hd⟩, fun a ha => ?_, h.apart, h.few⟩
  · subst e
    refine hl ?_
    have : w.cell? ⟨bm, 0, none⟩ = some lv := by rw [ht.cell]; rfl
    unfold lBlk
    rw [this]
    exact hg
  · obtain ⟨c, hc⟩ := owns_kind hn hg
    exact hT hc (by decide)
  · obtain ⟨c, hc⟩ := owns_kind hw hg
    exact hT hc (by decide)
  · exact (h.each a ha).keeps k (fun g hg => by
      obtain ⟨c, hc⟩ := (h.each a ha).row_blk hg
      exact hT hc (by decide))
theorem Two.keeps30 {W w w' : World} {bm bn go : Nat} {ms ns : List Area} {cs : Array Value} (h : Two W bm bn ms ns w) (k : Keeps (· = go) w w') (hb : Blk w go 30 cs) (hl : lBlk w bn ≠ some go) (hW : W.heap.size ≤ go) : Two W bm bn ms ns w' := by
  refine ⟨h.mem.keeps2 k (fun g t c e hg => ?_) (fun g hg e => ?_), h.ref.keeps30 k hb hl, h.apart, h.mrows, h.nrows, fun g hg => h.was g ?_, ?_⟩
  · subst e
    obtain rfl := hg.kind hb
    decide
  · subst e
    have := h.mem.rows_kind _ _ _ hg hb
    cases this
  · rwa [wasBlk_keeps h.ref k (fun e => ?_)] at hg
    subst e
    obtain ⟨_, _, _, hb2, _⟩ := h.ref.top
    exact hb2.ne_ hb (by decide) rfl
  · exact ((keeps_of_below (fun _ => False) h.bel).trans k (fun i hi e => by omega)).below
theorem fresh_key {w : World} {rs : List Rng} {ms : List Area} (h : Fresh w rs ms) (hl : ∀ a ∈ ms, (a.xs.length : Int) = a.r.sz) : ms.map Area.key = rs.map fun r => (r, List.replicate r.sz.toNat 0, List.replicate r.sz.toNat 0) := by
  rw [← h.ranges, List.map_map]
  refine List.map_congr_left fun a ha => ?_
  have h1 := (h.zero a ha).1
  have h2 := (h.zero a ha).2
  have h3 : a.r.sz.toNat = a.xs.length := by have := hl a ha; omega
  simp only [Function.comp, Area.key, h3]
  rw [h2, ← h1]
/-- Both memories are new. -/
theorem two_new {W w0 w1 w2 : World} {bm bn : Nat} {rs : List Rng} {ms ns : List Area} (hb : Below W.heap.size W w0) (hb1 : Below w0.heap.size w0 w1) (hb2 : Below w1.heap.size w1 w2) (hm : MemAt w1 bm ms) (hf : Fresh w0 rs ms) (hn : RefAt w2 bn ns) (hfn : Fresh w1 rs ns) (hw : ∀ g, wasBlk w2 bn = some g → w1.heap.size ≤ g) :
    Two W bm bn ms ns w2 ∧ Alike rs ms ns := by
  have s0 := hb.size
  have s1 := hb1.size
  refine ⟨⟨hm.below hb2, hn, fun g hg hg2 => ?_, fun g hg => Nat.le_trans s0 (hf.new g hg), fun g hg => Nat.le_trans s0 (Nat.le_trans s1 (hfn.new g hg)), fun g hg => Nat.le_trans s0 (Nat.le_trans s1 (hw g hg)), hb.trans ((hb1.mono s0).trans (hb2.mono (Nat.le_trans s0 s1)))⟩, ?_, hf.ranges⟩
  · have := hm.row_lt hg
    have := hfn.new g hg2
    omega
  · rw [fresh_key hfn (fun a ha => (hn.each a ha).lx), fresh_key hf (fun a ha => (hm.each a ha).lx)]
/-- A clone takes memory's place. -/
theorem Two.clone {W wr w2 w3 w4 : World} {bm bn bm2 : Nat} {rs : List Rng} {ms ns cs ms3 ms4 : List Area} (h : Two W bm bn ms ns wr) (hal : Alike rs ms ns) (hb : Below wr.heap.size wr w2) (hm2 : MemAt w2 bm2 cs) (hkey : cs.map Area.key = ms.map Area.key) (hrows : ∀ g ∈ rowsOf cs, wr.heap.size ≤ g)
    (hm3 : MemAt w3 bm ms3) (hk3 : Keeps (· ∈ rowsOf ms) w2 w3) (hr3 : rowsOf ms3 = rowsOf ms) (hm4 : MemAt w4 bm ms4) (hk4 : Keeps (· ∈ rowsOf ms3) w3 w4) (hr4 : rowsOf ms4 = rowsOf ms3) : Two W bm2 bn cs ns w4 ∧ Alike rs cs ns := by
  have h2 := h.below hb
  have h3 := h2.m hm3 hk3 hr3
  have h4 := h3.m hm4 hk4 hr4
  have hd : ∀ g ∈ rowsOf cs, g ∉ rowsOf ms := fun g hg hg2 => by
    have := hrows g hg
    have := h.mem.row_lt hg2
    omega
  have q3 := hm2.other h2.mem hk3 hd
  have q4 := q3.other hm3 hk4 (by rw [hr3]; exact hd)
  refine ⟨⟨q4, h4.ref, fun g hg hg2 => ?_, fun g hg => Nat.le_trans h.bel.size (hrows g hg), h4.nrows, h4.was, h4.bel⟩, hal.key.trans hkey.symm, ?_⟩
  · have := hrows g hg
    have := h.ref.row_lt hg2
    omega
  · have := congrArg (List.map Prod.fst) hkey
    rw [List.map_map, List.map_map] at this
    exact (show cs.map (·.r) = ms.map (·.r) from this).trans hal.rng
theorem bsl_lit (w : World) : BSl (w.alloc (.cells #[.int .u8 1, .int .u8 2, .int .u8 3] 5)) (.slice (some ⟨w.heap.size, 0, none⟩) 3 3) [1, 2, 3] := by
  refine ⟨_, 3, rfl, Nat.le_refl _, by decide, fun x hx => ?_, fun _ => ⟨w.heap.size, 0, rfl, by simp, fun i hi => ?_⟩⟩
  · simp at hx; omega
  · rw [Nat.zero_add, (Blk.new w 5 _).cell]
    have : i = 0 ∨ i = 1 ∨ i = 2 := by simp at hi; omega
    rcases this with rfl | rfl | rfl <;> rfl
/-- What both tell of what has changed is the same. -/
theorem Two.told {W wr w2 w3 : World} {bm bn : Nat} {rs : List Rng} {ms ns ms' : List Area} (h : Two W bm bn ms ns wr) (hal : Alike rs ms ns) (hchk : chkR rs = 0) (hp : ms'.Perm ms) (hs : sortedA ms') : rAll ns = allG ms' := by
  have hu : UniqR (ms.map (·.r)) := by rw [hal.rng]; exact uniq_of_chk hchk
  exact changed_law hp hs hu (fun a ha => (h.mem.each a ha).lx) (fun a ha => (h.mem.each a ha).ok) hal.key
end Go.Proofs.Ytbffclcjhcbejaa
namespace Go.Proofs.Ytbffclcjhcbejaa
open Go.RowKit
theorem gaps_self (v v' : Value) (gs : List (Int × Int)) (w : World) (hv : GRow w v gs) (hv' : GRow w v' gs) : Calls Try.prog 21 #[v, v'] w fun e w' => e = .returned (.bool true) ∧ Below w.heap.size w w' := by
  refine (gaps_any v v' gs gs w hv hv').mono ?_
  rintro e w' ⟨rfl, hb⟩
  exact ⟨by simp, hb⟩
theorem own_rs {w w' : World} {B : Nat} {v : Value} {rs : List Rng} (h : w.ownsRow B 30 5 v rs.length (rs.flatMap Rng.cells)) (hb : Below w.heap.size w w') (hn : ∀ r ∈ rs, r.nm.size ≤ maxLen) : RSlice w' v rs := (owns_rslice h hn).below hb
set_option maxRecDepth 100000 in
set_option maxHeartbeats 16000000 in
theorem plays_any (lv av : Value) (rs : List Rng) (as_ : List Act') (w : World) (hl : RSlice w lv rs) (hav : ASlice w av as_) (hby : ∀ a ∈ as_, ∃ cs, BSl w a.by_ cs ∧ cs.length ≤ 140737488351232) (hlen : rs.length * 40 ≤ 140737488351232) :
    Calls Try.prog 5 #[lv, av] w fun e w' => e = .returned (.bool true) ∧ Below w.heap.size w w' := by
  have HL := Lib.hid hl
  have HBY := Lib.hid hby
  obtain ⟨Al, capl, rfl, hcl, hml, hnm, hcells⟩ := hl
  obtain ⟨Aa, capa, rfl, hca, hma, hab, hacells⟩ := hav
  have HAC := Lib.hid hacells
  have HAB := Lib.hid hab
  have HNM := Lib.hid hnm
  obtain ⟨Ao, capo, w1, hap, hco, hmo, hown, hb1⟩ := copy_ranges HL.out hlen
  have hbs : ∀ w, (Instr.buildSlice 22 0 #[]).run Try.prog w = .ok (.slice (some ⟨w.heap.size, 0, none⟩) 0 0) (w.alloc (.cells #[] 30)) := fun _ => by kernel_rfl
  have HAP := Lib.hid hap
  have HOWN := Lib.hid hown
  have HO1 := Lib.hid (owns_rslice hown hnm)
  have HB1 := Lib.hid hb1
  obtain ⟨NL, hNL⟩ : ∃ NL, rs.length = NL := ⟨_, rfl⟩
  obtain ⟨NA, hNA⟩ : ∃ NA, as_.length = NA := ⟨_, rfl⟩
  rw [hNL] at hcl HL hco HAP HOWN HO1 hlen ⊢
  rw [hNA] at hca ⊢
  have HNL := Lib.hid hNL
  have HNA := Lib.hid hNA
  unfold maxLen at hml hma hmo
  clear hnm hcells hacells hab hby hNL hNA hap hown hb1
  go_enter Try.func5, Try.ntmps5
  go_wp2_with (at_builtin; refine wpList_append_eq rfl (.tmp 15) (.tmp 16) 22 rfl rfl rfl HAP.out ?_)
  refine (check_any _ rs _ HO1.out).mono ?_
  rintro e w2 ⟨rfl, hb2⟩
  have HB2 := Lib.hid (HB1.out.trans (hb2.mono HB1.out.size))
  have HO2 := Lib.hid (HO1.out.below hb2)
  have HOWN2 := Lib.hid (ownsRow_keeps HOWN.out (keeps_of_below (fun _ => False) hb2) (fun _ _ e => e))
  clear hb2
  go_wp2_with fail
  refine (rcheck_any _ rs _ (HL.out.below HB2.out)).mono ?_
  rintro e w3 ⟨rfl, hb3⟩
  have HB3 := Lib.hid (HB2.out.trans (hb3.mono HB2.out.size))
  have HO3 := Lib.hid (HO2.out.below hb3)
  have HOWN3 := Lib.hid (ownsRow_keeps HOWN2.out (keeps_of_below (fun _ => False) hb3) (fun _ _ e => e))
  clear hb3
  obtain ⟨c, hcc⟩ : ∃ c, chkR rs = c := ⟨_, rfl⟩
  rw [hcc]
  have HCC := Lib.hid hcc
  have q1 : (c != c) = false := by simp
  clear hcc
  go_wp2_with fail
  refine (new_any _ rs _ HO3.out).mono ?_
  rintro e w4 ⟨hb4, hcase⟩
  have HB4 := Lib.hid (HB3.out.trans (hb4.mono HB3.out.size))
  have HOWN4 := Lib.hid (ownsRow_keeps HOWN3.out (keeps_of_below (fun _ => False) hb4) (fun _ _ e => e))
  have HB34 := Lib.hid hb4
  clear hb4
  rcases hcase with ⟨hc, rfl⟩ | ⟨hc, bm, ms, rfl, hbm, hm, hf⟩
  · rw [HCC.out] at hc ⊢
    have hcb : (c != 0) = true := by simp [hc]
    have HC := Lib.hid hc
    clear hc
    go_wp2_with fail
    refine (rnew_any _ rs _ (HL.out.below HB4.out)).mono ?_
    rintro e w5 ⟨hb5, hcase⟩
    have HB5 := Lib.hid (HB4.out.trans (hb5.mono HB4.out.size))
    have HOWN5 := Lib.hid (ownsRow_keeps HOWN4.out (keeps_of_below (fun _ => False) hb5) (fun _ _ e => e))
    clear hb5
    rcases hcase with ⟨_, rfl⟩ | ⟨hc2, _⟩
    · rw [HCC.out]
      go_wp2_with fail
      refine (ranges_any _ _ rs _ (by rw [← HNL.out]; exact owns_rslice (by rw [HNL.out]; exact HOWN5.out) HNM.out) (HL.out.below HB5.out)).mono ?_
      rintro e w6 ⟨rfl, hb6⟩
      have HB6 := Lib.hid (HB5.out.trans (hb6.mono HB5.out.size))
      clear hb6
      go_wp2_with fail
      go_ret
      exact ⟨rfl, HB6.out⟩
    · exact absurd (HCC.out.symm.trans hc2) HC.out
  · have HC := Lib.hid hc
    have hm4 := Lib.hid hm
    have hf4 := Lib.hid hf
    obtain rfl : c = 0 := HCC.out.symm.trans hc
    clear hc hm hf hbm
    go_wp2_with fail
    refine (rnew_any _ rs _ (HL.out.below HB4.out)).mono ?_
    rintro e w5 ⟨hb5, hcase⟩
    rcases hcase with ⟨hc2, _⟩ | ⟨_, bn, ns, rfl, hbn, hn, hfn, hwas, hlb⟩
    · exact absurd HCC.out hc2
    obtain ⟨htwo, hal⟩ := two_new HB3.out HB34.out hb5 hm4.out hf4.out hn hfn hwas
    have HT5 := Lib.hid htwo
    have HAL5 := Lib.hid hal
    have HOWN5 := Lib.hid (ownsRow_keeps HOWN4.out (keeps_of_below (fun _ => False) hb5) (fun _ _ e => e))
    have hNL16 : NL ≤ 16 := by
      have h1 := htwo.mem.few
      have h2 : ms.length = rs.length := by rw [← hal.rng]; simp
      have := HNL.out
      omega
    have HLB := Lib.hid (fun g (hg : lBlk w5 bn = some g) => hlb g hg)
    have HSZ4 := Lib.hid HB4.out.size
    clear hb5 hn hfn hwas htwo hal hbn hlb hm4 hf4
    have q2 : ((0 : Int) != 0) = false := by simp
    go_wp2_with fail
    -- the ranges that came are spoilt
    go_loopw [10] (fun i wr => ∃ k : Nat, k ≤ NL ∧ i = .int .i64 k ∧ Hid (Keeps (fun g => (Value.slice Ao NL capo).ownBlock = some g) w5 wr ∧ ∃ ys, wr.ownsRow w.heap.size 30 5 (.slice Ao NL capo) NL ys)) (fun i _ => NL - (intOf i).toNat)
    case atStart => exact ⟨0, Nat.zero_le _, rfl, Keeps.refl _ _, _, HOWN5.out⟩
    case round =>
      obtain ⟨k, hk, rfl, HR⟩ := hrel
      by_cases hlt : k < NL
      · obtain ⟨ys, hys⟩ := HR.out.2
        obtain ⟨g, rfl⟩ : ∃ g, Ao = some ⟨g, 0, none⟩ := by
          rcases hys.2 with ⟨_, h0⟩ | ⟨g, cap', cur, hv, _⟩
          · omega
          · cases hv; exact ⟨g, rfl⟩
        obtain ⟨p1, p2, p3, p4, p5, p6⟩ := own_parts hys
        have hyl : ys.length = NL * 5 := hys.1
        have x0 := p5 (k * 5) ys[k * 5] (List.getElem?_eq_getElem (by omega))
        have x1 := p5 (k * 5 + 1) ys[k * 5 + 1] (List.getElem?_eq_getElem (by omega))
        have x2 := p5 (k * 5 + 2) ys[k * 5 + 2] (List.getElem?_eq_getElem (by omega))
        have x3 := p5 (k * 5 + 3) ys[k * 5 + 3] (List.getElem?_eq_getElem (by omega))
        have x4 := p5 (k * 5 + 4) ys[k * 5 + 4] (List.getElem?_eq_getElem (by omega))
        generalize ys[k * 5]'(by omega) = o0 at x0
        generalize ys[k * 5 + 1]'(by omega) = o1 at x1
        generalize ys[k * 5 + 2]'(by omega) = o2 at x2
        generalize ys[k * 5 + 3]'(by omega) = o3 at x3
        generalize ys[k * 5 + 4]'(by omega) = o4 at x4
        have z0 := p6 (k * 5)
        have z1 := p6 (k * 5 + 1)
        have z2 := p6 (k * 5 + 2)
        have z3 := p6 (k * 5 + 3)
        have z4 := p6 (k * 5 + 4)
        have HNX : Hid (Keeps (fun x => (Value.slice (some ⟨g, 0, none⟩) NL capo).ownBlock = some x) w5 (((((wr.setCell ⟨g, k * 5, none⟩ (.string ⟨#[115, 112, 111, 105, 108, 116]⟩)).setCell ⟨g, k * 5 + 1, none⟩ (.int .i64 0)).setCell ⟨g, k * 5 + 2, none⟩ (.int .i64 0)).setCell ⟨g, k * 5 + 3, none⟩ (.bool false)).setCell ⟨g, k * 5 + 4, none⟩ (.bool false)) ∧
            ∃ ys, (((((wr.setCell ⟨g, k * 5, none⟩ (.string ⟨#[115, 112, 111, 105, 108, 116]⟩)).setCell ⟨g, k * 5 + 1, none⟩ (.int .i64 0)).setCell ⟨g, k * 5 + 2, none⟩ (.int .i64 0)).setCell ⟨g, k * 5 + 3, none⟩ (.bool false)).setCell ⟨g, k * 5 + 4, none⟩ (.bool false)).ownsRow w.heap.size 30 5 (.slice (some ⟨g, 0, none⟩) NL capo) NL ys) := by
          have y1 := own_set hys (j := k * 5) (by omega) (.string ⟨#[115, 112, 111, 105, 108, 116]⟩)
          have y2 := own_set y1 (j := k * 5 + 1) (by simp only [List.length_set]; omega) (.int .i64 0)
          have y3 := own_set y2 (j := k * 5 + 2) (by simp only [List.length_set]; omega) (.int .i64 0)
          have y4 := own_set y3 (j := k * 5 + 3) (by simp only [List.length_set]; omega) (.bool false)
          have y5 := own_set y4 (j := k * 5 + 4) (by simp only [List.length_set]; omega) (.bool false)
          exact ⟨((((HR.out.1.setCell (p := ⟨g, k * 5, none⟩) (Or.inr rfl) _).setCell (p := ⟨g, k * 5 + 1, none⟩) (Or.inr rfl) _).setCell (p := ⟨g, k * 5 + 2, none⟩) (Or.inr rfl) _).setCell (p := ⟨g, k * 5 + 3, none⟩) (Or.inr rfl) _).setCell (p := ⟨g, k * 5 + 4, none⟩) (Or.inr rfl) _, _, y5⟩
        have e5 : (0 : Int) ≤ (k : Int) := by omega
        have e6 : (k : Int) < ((NL : Nat) : Int) := by omega
        clear hys p1 p2 p3 p4 p5 p6 hyl
        go_wp2_with fail
        go_roundw
        case rel => exact ⟨k + 1, by omega, by go_num, HNX.out⟩
        case measure => simp [intOf]; omega
      · have htwo : Two w bm bn ms ns wr := by
          by_cases hA : ∃ g, (Value.slice Ao NL capo).ownBlock = some g
          · obtain ⟨g, hg⟩ := hA
            obtain ⟨cur, hcur⟩ := owns_kind HOWN5.out hg
            have hkg : Keeps (· = g) w5 wr := HR.out.1.mono (fun i _ e => (Option.some.inj (hg.symm.trans e)).symm)
            have hlt := HOWN3.out.lt g hg
            refine HT5.out.keeps30 hkg hcur (fun e => ?_) hlt.1
            have h1 := HLB.out g e
            have h2 := HB34.out.size
            omega
          · have hk : Keeps (fun _ => False) w5 wr := HR.out.1.mono (fun i _ e => hA ⟨i, e⟩)
            exact HT5.out.below hk.below
        have HT6 := Lib.hid htwo
        clear htwo
        go_wp2_with fail
        obtain ⟨wm, hwm⟩ : ∃ wm : World, wm = wr := ⟨_, rfl⟩
        go_loopw [6, 11] (fun x i wi => ∃ (k bx : Nat) (mx nx : List Area), k ≤ NA ∧ x = .pointer (some ⟨bx, 0, none⟩) ∧ i = .int .i64 k ∧ Hid (Two w bx bn mx nx wi ∧ Alike rs mx nx)) (fun _ i _ => NA - (intOf i).toNat)
        case atStart => exact ⟨0, bm, ms, ns, Nat.zero_le _, rfl, rfl, HT6.out, HAL5.out⟩
        clear hwm wm
        case round =>
          obtain ⟨k, bx, mx, nx, hk, rfl, rfl, HS⟩ := hrel
          by_cases hlt : k < NA
          · have hkl : k < as_.length := by rw [HNA.out]; exact hlt
            obtain ⟨ga, offa, rfl, hga, hac⟩ := HAC.out (by rintro rfl; simp at hkl)
            have hbd := HAB.out as_[k] (List.getElem_mem hkl)
            obtain ⟨cs, hcs, hcsl⟩ := HBY.out as_[k] (List.getElem_mem hkl)
            have z0 := hac k hkl 0 _ rfl
            have z1 := hac k hkl 1 _ rfl
            have z2 := hac k hkl 2 _ rfl
            have z3 := hac k hkl 3 _ rfl
            have z4 := hac k hkl 4 _ rfl
            obtain ⟨a, ha⟩ : ∃ a, as_[k] = a := ⟨_, rfl⟩
            rw [ha] at z0 z1 z2 z3 z4 hbd hcs
            have HPL := Lib.hid (fun w' (ht : Two w bx bn mx nx w') => play_any w bx bn rs mx nx a cs w' ht HS.out.2 hbd hcs hcsl)
            obtain ⟨⟨b1, b2⟩, b3, b4⟩ := hbd
            obtain ⟨Ab, capb, hab, _⟩ := hcs
            obtain ⟨kd, at_, n, v, by_⟩ := a
            dsimp only at z0 z1 z2 z3 z4 hab b1 b2 b3 b4
            subst hab
            unfold actArr at HPL
            dsimp only at HPL
            generalize cs.length = L at *
            have c0 : wr.cell? ⟨ga, offa + k * 5, none⟩ = some (.int .i64 kd) := (HS.out.1.bel.cell (p := ⟨ga, offa + k * 5 + 0, none⟩) hga).trans z0
            have c1 : wr.cell? ⟨ga, offa + k * 5 + 1, none⟩ = some (.int .u32 at_) := (HS.out.1.bel.cell (p := ⟨ga, offa + k * 5 + 1, none⟩) hga).trans z1
            have c2 : wr.cell? ⟨ga, offa + k * 5 + 2, none⟩ = some (.int .i64 n) := (HS.out.1.bel.cell (p := ⟨ga, offa + k * 5 + 2, none⟩) hga).trans z2
            have c3 : wr.cell? ⟨ga, offa + k * 5 + 3, none⟩ = some (.int .u32 v) := (HS.out.1.bel.cell (p := ⟨ga, offa + k * 5 + 3, none⟩) hga).trans z3
            have c4 : wr.cell? ⟨ga, offa + k * 5 + 4, none⟩ = some (.slice Ab L capb) := (HS.out.1.bel.cell (p := ⟨ga, offa + k * 5 + 4, none⟩) hga).trans z4
            have Z1 := Lib.hid z1
            have e5 : (0 : Int) ≤ (k : Int) := by omega
            have e6 : (k : Int) < ((NA : Nat) : Int) := by omega
            clear z0 z1 z2 z3 z4 ha hac hcsl
            go_wp2_with fail
            refine (among_any kd 8 _ (Or.inr rfl)).mono ?_
            rintro e wq ⟨rfl, rfl⟩
            generalize amongR kd 8 = cd
            by_cases h7 : cd = 7
            · subst h7
              clear c0 c2 c3 c4
              go_wp2_with fail
              refine (clone_any bx mx _ HS.out.1.mem).mono ?_
              rintro e w6 ⟨bz, cz, rfl, _, hmz, hkz, hrz, hbz⟩
              have HT7 := Lib.hid (HS.out.1.below hbz)
              have d1 : w6.cell? ⟨ga, offa + k * 5 + 1, none⟩ = some (.int .u32 at_) := (HT7.out.bel.cell (p := ⟨ga, offa + k * 5 + 1, none⟩) hga).trans Z1.out
              have HMZ := Lib.hid hmz
              have HRZ := Lib.hid hrz
              have HKZ := Lib.hid hkz
              have HBZ := Lib.hid hbz
              clear hmz hkz hrz hbz c1
              go_wp2_with fail
              have hal6 : Below w6.heap.size w6 (w6.alloc (.cells #[.int .u8 1, .int .u8 2, .int .u8 3] 5)) := (Below.refl _ _).alloc (Nat.le_refl _) _
              refine (fill_any bx mx at_ _ [1, 2, 3] _ (HT7.out.mem.below hal6) b1 b2 (bsl_lit w6)).mono ?_
              rintro e w7 ⟨rfl, hm7, hk7, hr7⟩
              have HM7 := Lib.hid hm7
              have HK7 := Lib.hid ((keeps_of_below (· ∈ rowsOf mx) hal6).trans hk7 (fun _ _ e => e))
              have HR7 := Lib.hid hr7
              clear hm7 hk7 hr7 hal6
              generalize (fillR mx at_ [1, 2, 3]).1 = fx
              generalize (fillR mx at_ [1, 2, 3]).2 = m7 at HM7 HR7
              go_wp2_with fail
              refine (mark_any bx m7 _ HM7.out).mono ?_
              rintro e w8 ⟨rfl, hm8, hk8, hr8⟩
              obtain ⟨ht8, ha8⟩ := HS.out.1.clone HS.out.2 HBZ.out HMZ.out HKZ.out HRZ.out HM7.out HK7.out HR7.out hm8 hk8 hr8
              have HT8 := Lib.hid ht8
              have HA8 := Lib.hid ha8
              clear hm8 hk8 hr8 ht8 ha8
              by_cases h4 : (k : Int) % 4 = 0
              · have h4' : ((k : Int) % 4 == 0) = true := by simpa using h4
                clear h4
                go_wp2_with fail
                refine (changed_any bz cz _ HT8.out.mem).mono ?_
                rintro e wa ⟨va, ma, rfl, hperm, hsort, hoa, hba⟩
                have HTa := Lib.hid (HT8.out.below hba)
                have HTOLD := Lib.hid (HT8.out.told (w2 := wa) (w3 := wa) HA8.out HC.out hperm hsort)
                have HGA := Lib.hid (gRow_owns hoa)
                obtain ⟨Aa2, capa2, rfl, _⟩ := slice_form hoa
                clear hperm hsort hoa hba
                go_wp2_with fail
                refine (rchanged_any bn nx _ HTa.out.ref).mono ?_
                rintro e wb2 ⟨vb, rfl, hob, hbb⟩
                rw [HTOLD.out] at hob
                have HTb := Lib.hid (HTa.out.below hbb)
                have HGB := Lib.hid (gRow_owns hob)
                have HGA2 := Lib.hid (HGA.out.below hbb)
                obtain ⟨Ab2, capb2, rfl, _⟩ := slice_form hob
                clear hob hbb
                go_wp2_with fail
                refine (gaps_self _ _ (allG ma) _ HGA2.out HGB.out).mono ?_
                rintro e wc ⟨rfl, hbc⟩
                have HTc := Lib.hid (HTb.out.below hbc)
                clear hbc
                go_wp2_with fail
                go_roundw
                case rel => exact ⟨k + 1, bz, cz, nx, by omega, rfl, by go_num, HTc.out, HA8.out⟩
                case measure => simp [intOf]; omega
              · have h4' : ((k : Int) % 4 == 0) = false := by simpa using h4
                clear h4
                go_wp2_with fail
                go_roundw
                case rel => exact ⟨k + 1, bz, cz, nx, by omega, rfl, by go_num, HT8.out, HA8.out⟩
                case measure => simp [intOf]; omega
            · have h7' : (cd == 7) = false := by simpa using h7
              clear h7
              go_wp2_with fail
              refine (HPL.out _ HS.out.1).mono ?_
              rintro e w8 ⟨rfl, m8, n8, ht8, ha8⟩
              have HT8 := Lib.hid ht8
              have HA8 := Lib.hid ha8
              clear ht8 ha8 c0 c1 c2 c3 c4
              by_cases h4 : (k : Int) % 4 = 0
              · have h4' : ((k : Int) % 4 == 0) = true := by simpa using h4
                clear h4
                go_wp2_with fail
                refine (changed_any bx m8 _ HT8.out.mem).mono ?_
                rintro e wa ⟨va, ma, rfl, hperm, hsort, hoa, hba⟩
                have HTa := Lib.hid (HT8.out.below hba)
                have HTOLD := Lib.hid (HT8.out.told (w2 := wa) (w3 := wa) HA8.out HC.out hperm hsort)
                have HGA := Lib.hid (gRow_owns hoa)
                obtain ⟨Aa2, capa2, rfl, _⟩ := slice_form hoa
                clear hperm hsort hoa hba
                go_wp2_with fail
                refine (rchanged_any bn n8 _ HTa.out.ref).mono ?_
                rintro e wb2 ⟨vb, rfl, hob, hbb⟩
                rw [HTOLD.out] at hob
                have HTb := Lib.hid (HTa.out.below hbb)
                have HGB := Lib.hid (gRow_owns hob)
                have HGA2 := Lib.hid (HGA.out.below hbb)
                obtain ⟨Ab2, capb2, rfl, _⟩ := slice_form hob
                clear hob hbb
                go_wp2_with fail
                refine (gaps_self _ _ (allG ma) _ HGA2.out HGB.out).mono ?_
                rintro e wc ⟨rfl, hbc⟩
                have HTc := Lib.hid (HTb.out.below hbc)
                clear hbc
                go_wp2_with fail
                go_roundw
                case rel => exact ⟨k + 1, bx, m8, n8, by omega, rfl, by go_num, HTc.out, HA8.out⟩
                case measure => simp [intOf]; omega
              · have h4' : ((k : Int) % 4 == 0) = false := by simpa using h4
                clear h4
                go_wp2_with fail
                go_roundw
                case rel => exact ⟨k + 1, bx, m8, n8, by omega, rfl, by go_num, HT8.out, HA8.out⟩
                case measure => simp [intOf]; omega
          · go_wp2_with fail
            clear hlt hk
            refine (mranges_any bx mx _ HS.out.1.mem).mono ?_
            rintro e w6 ⟨v6, rfl, ho6, hb6⟩
            rw [HS.out.2.rng] at ho6
            have hml6 : mx.length = NL := by have h1 := congrArg List.length HS.out.2.rng; rw [List.length_map] at h1; rw [h1]; exact HNL.out
            rw [hml6] at ho6
            obtain ⟨A6, cap6, rfl, hc6, hm6⟩ := slice_form ho6
            have HT7 := Lib.hid (HS.out.1.below hb6)
            have HX6 := Lib.hid hb6
            have HO6 := Lib.hid ho6
            unfold maxLen at hm6
            clear hb6 ho6 hml6
            go_wp2_with fail
            refine (ranges_any _ _ rs _ (by rw [← HNL.out]; exact owns_rslice (by rw [HNL.out]; exact HO6.out) HNM.out) (HL.out.below HT7.out.bel)).mono ?_
            rintro e w7 ⟨rfl, hb7⟩
            have HX7 := Lib.hid (HX6.out.trans (hb7.mono HX6.out.size))
            have HO7 := Lib.hid (ownsRow_keeps HO6.out (keeps_of_below (fun _ => False) hb7) (fun _ _ e => e))
            clear hb7
            go_wp2_with fail
            obtain ⟨wb, hwb⟩ : ∃ wb : World, wb = wr := ⟨_, rfl⟩
            rw [← hwb] at HX7 HO7 HS
            clear hwb HX6 HO6 HT7
            go_loopw [14] (fun i wi => ∃ k : Nat, k ≤ NL ∧ i = .int .i64 k ∧ Hid (Below wb.heap.size wb wi ∧ ∃ ys, wi.ownsRow wb.heap.size 30 5 (.slice A6 NL cap6) NL ys)) (fun i _ => NL - (intOf i).toNat)
            case atStart => exact ⟨0, Nat.zero_le _, rfl, HX7.out, _, HO7.out⟩
            case round =>
              obtain ⟨k, hk, rfl, HR⟩ := hrel
              by_cases hlt : k < NL
              · obtain ⟨ys, hys⟩ := HR.out.2
                obtain ⟨g, rfl⟩ : ∃ g, A6 = some ⟨g, 0, none⟩ := by
                  rcases hys.2 with ⟨_, h0⟩ | ⟨g, cap', cur, hv, _⟩
                  · omega
                  · cases hv; exact ⟨g, rfl⟩
                obtain ⟨p1, p2, p3, p4, p5, p6⟩ := own_parts hys
                have hyl : ys.length = NL * 5 := hys.1
                have x1 := p5 (k * 5 + 1) ys[k * 5 + 1] (List.getElem?_eq_getElem (by omega))
                generalize ys[k * 5 + 1]'(by omega) = o1 at x1
                have z1 := p6 (k * 5 + 1)
                have HNX : Hid (Below wb.heap.size wb (wr.setCell ⟨g, k * 5 + 1, none⟩ (.int .i64 7)) ∧ ∃ ys, (wr.setCell ⟨g, k * 5 + 1, none⟩ (.int .i64 7)).ownsRow wb.heap.size 30 5 (.slice (some ⟨g, 0, none⟩) NL cap6) NL ys) :=
                  ⟨((keeps_of_below (fun _ => False) HR.out.1).setCell (p := ⟨g, k * 5 + 1, none⟩) (Or.inl p1) _).below, _, own_set hys (by omega) _⟩
                have e5 : (0 : Int) ≤ (k : Int) := by omega
                have e6 : (k : Int) < ((NL : Nat) : Int) := by omega
                clear hys p1 p2 p3 p4 p5 p6 hyl
                go_wp2_with fail
                go_roundw
                case rel => exact ⟨k + 1, by omega, by go_num, HNX.out⟩
                case measure => simp [intOf]; omega
              · have HT8 := Lib.hid (HS.out.1.below HR.out.1)
                have HA8 := Lib.hid HS.out.2
                go_wp2_with fail
                clear hlt hk
                refine (mranges_any bx mx _ HT8.out.mem).mono ?_
                rintro e w9 ⟨v9, rfl, ho9, hb9⟩
                rw [HA8.out.rng] at ho9
                have hml6 : mx.length = NL := by have h1 := congrArg List.length HA8.out.rng; rw [List.length_map] at h1; rw [h1]; exact HNL.out
                rw [hml6] at ho9
                obtain ⟨A9, cap9, rfl, hc9, hm9⟩ := slice_form ho9
                have HT9 := Lib.hid (HT8.out.below hb9)
                have HO9 := Lib.hid ho9
                unfold maxLen at hm9
                clear hb9 ho9 hml6
                go_wp2_with fail
                refine (ranges_any _ _ rs _ (by rw [← HNL.out]; exact owns_rslice (by rw [HNL.out]; exact HO9.out) HNM.out) (HL.out.below HT9.out.bel)).mono ?_
                rintro e w10 ⟨rfl, hb10⟩
                have HT10 := Lib.hid (HT9.out.below hb10)
                clear hb10 HT9 HO9
                go_wp2_with fail
                refine (changed_any bx mx _ HT10.out.mem).mono ?_
                rintro e wa ⟨va, ma, rfl, hperm, hsort, hoa, hba⟩
                have HTa := Lib.hid (HT10.out.below hba)
                have HTOLD := Lib.hid (HT10.out.told (w2 := wa) (w3 := wa) HA8.out HC.out hperm hsort)
                have HGA := Lib.hid (gRow_owns hoa)
                obtain ⟨Aa2, capa2, rfl, _⟩ := slice_form hoa
                clear hperm hsort hoa hba
                go_wp2_with fail
                refine (rchanged_any bn nx _ HTa.out.ref).mono ?_
                rintro e wb2 ⟨vb, rfl, hob, hbb⟩
                rw [HTOLD.out] at hob
                have HTb := Lib.hid (HTa.out.below hbb)
                have HGB := Lib.hid (gRow_owns hob)
                have HGA2 := Lib.hid (HGA.out.below hbb)
                obtain ⟨Ab2, capb2, rfl, _⟩ := slice_form hob
                clear hob hbb
                go_wp2_with fail
                refine (gaps_self _ _ (allG ma) _ HGA2.out HGB.out).mono ?_
                rintro e wc ⟨rfl, hbc⟩
                have HTc := Lib.hid (HTb.out.below hbc)
                clear hbc
                go_wp2_with fail
                go_ret
                exact ⟨rfl, HTc.out.bel⟩
end Go.Proofs.Ytbffclcjhcbejaa
