/- The walk of MemChanges: it answers true. Conditions: the slices read ms such. -/
import Derived.Test.YtbffclcjhcbejaaL3
import Derived.StillTailTactics
namespace Go.Proofs.Ytbffclcjhcbejaa
open Go.RowKit
structure Act' where
  kind : Int
  at_ : Int
  n : Int
  w : Int
  by_ : Value
def actArr (a : Act') : Array Value := #[.int .i64 a.kind, .int .u32 a.at_, .int .i64 a.n, .int .u32 a.w, a.by_]
def ACells (w : World) (g off : Nat) (as_ : List Act') : Prop := ∀ i (h : i < as_.length) (j : Nat) (u : Value), (actArr as_[i])[j]? = some u → w.cell? ⟨g, off + i * 5 + j, none⟩ = some u
/-- A slice of acts reads ms these. -/
def ASlice (w : World) (v : Value) (as_ : List Act') : Prop :=
  ∃ A cap, v = .slice A as_.length cap ∧ as_.length ≤ cap ∧ cap ≤ maxLen ∧ (∀ a ∈ as_, (0 ≤ a.at_ ∧ a.at_ ≤ 4294967295) ∧ 0 ≤ a.w ∧ a.w ≤ 4294967295) ∧ (as_ ≠ [] → ∃ g off, A = some ⟨g, off, none⟩ ∧ g < w.heap.size ∧ ACells w g off as_)
/-- Memory that the call has made, over these ranges. -/
structure StR (w : World) (bm : Nat) (rs : List Rng) (ms : List Area) (wr : World) : Prop where
  mem : MemAt wr bm ms
  ranges : ms.map (·.r) = rs
  bel : Below w.heap.size w wr
  rows : ∀ g ∈ rowsOf ms, w.heap.size ≤ g
theorem ranges_of_ry {ms ms' : List Area} (h : ms'.map (fun a => (a.r, a.ys)) = ms.map (fun a => (a.r, a.ys))) : ms'.map (·.r) = ms.map (·.r) := by
  have := congrArg (List.map Prod.fst) h
  rw [List.map_map, List.map_map] at this
  exact this
theorem StR.store {w wr w' : World} {bm : Nat} {rs : List Rng} {ms : List Area} {at_ n v : Int} (h : StR w bm rs ms wr) (hm : MemAt w' bm (storeR ms at_ n v).2) (hk : Keeps (· ∈ rowsOf ms) wr w') (hr : rowsOf (storeR ms at_ n v).2 = rowsOf ms) : StR w bm rs (storeR ms at_ n v).2 w' :=
  ⟨hm, (ranges_of_ry (store_ry ms at_ n v)).trans h.ranges, ((keeps_of_below (fun _ => False) h.bel).trans hk (fun i hi e => by have := h.rows i e; omega)).below, by rw [hr]; exact h.rows⟩
theorem StR.drew {w wr : World} {bm : Nat} {rs : List Rng} {ms : List Area} (h : StR w bm rs ms wr) : StR w bm rs ms wr.drew :=
  ⟨h.mem.below ((Below.refl _ _).drew), h.ranges, h.bel.drew, h.rows⟩
theorem markA_ranges (ms : List Area) : (ms.map markA).map (·.r) = ms.map (·.r) := by rw [List.map_map]; rfl
theorem StR.mark {w wr w' : World} {bm : Nat} {rs : List Rng} {ms : List Area} (h : StR w bm rs ms wr) (hm : MemAt w' bm (ms.map markA)) (hk : Keeps (· ∈ rowsOf ms) wr w') (hr : rowsOf (ms.map markA) = rowsOf ms) : StR w bm rs (ms.map markA) w' :=
  ⟨hm, (markA_ranges ms).trans h.ranges, ((keeps_of_below (fun _ => False) h.bel).trans hk (fun i hi e => by have := h.rows i e; omega)).below, by rw [hr]; exact h.rows⟩
/-- Memory, and beside it what it was at the mark. -/
structure StR2 (w : World) (bm bm2 : Nat) (ms0 cs : List Area) (ms : List Area) (wr : World) : Prop where
  mem : MemAt wr bm ms
  ry : ms.map (fun a => (a.r, a.ys)) = ms0.map (fun a => (a.r, a.ys))
  bel : Below w.heap.size w wr
  rows : ∀ g ∈ rowsOf ms, w.heap.size ≤ g
  mem2 : MemAt wr bm2 cs
  key : cs.map Area.key = ms0.map Area.key
  apart : ∀ g ∈ rowsOf cs, g ∉ rowsOf ms
theorem MemAt.start2 {w w3 w4 : World} {bm bm2 : Nat} {rs : List Rng} {ms cs : List Area} (hm : MemAt w3 bm ms) (h : StR w bm rs ms w3) (hb : Below w3.heap.size w3 w4) (hm2 : MemAt w4 bm2 cs) (hkey : cs.map Area.key = ms.map Area.key) (hrows : ∀ g ∈ rowsOf cs, w3.heap.size ≤ g) : StR2 w bm bm2 ms cs ms w4 :=
  ⟨hm.below hb, rfl, h.bel.trans (hb.mono h.bel.size), h.rows, hm2, hkey, fun g hg hg2 => by have := hm.row_lt hg2; have := hrows g hg; omega⟩
theorem StR2.below {w wr w' : World} {bm bm2 : Nat} {ms0 cs ms : List Area} (h : StR2 w bm bm2 ms0 cs ms wr) (hb : Below wr.heap.size wr w') : StR2 w bm bm2 ms0 cs ms w' :=
  ⟨h.mem.below hb, h.ry, h.bel.trans (hb.mono h.bel.size), h.rows, h.mem2.below hb, h.key, h.apart⟩
theorem StR2.drew {w wr : World} {bm bm2 : Nat} {ms0 cs ms : List Area} (h : StR2 w bm bm2 ms0 cs ms wr) : StR2 w bm bm2 ms0 cs ms wr.drew := h.below ((Below.refl _ _).drew)
theorem StR2.store {w wr w' : World} {bm bm2 : Nat} {ms0 cs ms : List Area} {at_ n v : Int} (h : StR2 w bm bm2 ms0 cs ms wr) (hm : MemAt w' bm (storeR ms at_ n v).2) (hk : Keeps (· ∈ rowsOf ms) wr w') (hr : rowsOf (storeR ms at_ n v).2 = rowsOf ms) : StR2 w bm bm2 ms0 cs (storeR ms at_ n v).2 w' :=
  ⟨hm, (store_ry ms at_ n v).trans h.ry, ((keeps_of_below (fun _ => False) h.bel).trans hk (fun i hi e => by have := h.rows i e; omega)).below, by rw [hr]; exact h.rows, h.mem2.other h.mem hk h.apart, h.key, by rw [hr]; exact h.apart⟩
/-- What is known of the gaps, for the law. -/
structure ChgF (rs : List Rng) (cs m6 : List Area) (C : List (Int × Int)) : Prop where
  sep : C.Pairwise fun g h => g.1 + g.2 < h.1
  sum : (C.map (·.2)).sum = (chgD m6).length
  told : ∀ a ∈ m6, ∀ k : Nat, k < a.xs.length → ((∃ g ∈ C, g.1 ≤ a.r.fr + k ∧ a.r.fr + k < g.1 + g.2) ↔ a.xs.getD k 0 ≠ a.ys.getD k 0)
  now : ∀ a ∈ m6, ∀ k : Nat, k < a.xs.length → loadR m6 (a.r.fr + k) 1 = (a.xs.getD k 0, 0)
  was : ∀ a ∈ m6, ∀ k : Nat, k < a.xs.length → loadR cs (a.r.fr + k) 1 = (a.ys.getD k 0, 0)
  ranges : m6.map (·.r) = rs
theorem ChgF.sep_at {rs : List Rng} {cs m6 : List Area} {C : List (Int × Int)} (h : ChgF rs cs m6 C) {p : Nat} {f s f' s' : Int} (h1 : C[p]? = some (f, s)) (h2 : C[p + 1]? = some (f', s')) : f + s < f' := by
  obtain ⟨hp, e1⟩ := List.getElem?_eq_some_iff.1 h1
  obtain ⟨hp', e2⟩ := List.getElem?_eq_some_iff.1 h2
  have := List.pairwise_iff_getElem.1 h.sep p (p + 1) hp hp' (by omega)
  rw [e1, e2] at this
  exact this
theorem changes_facts {w wr : World} {bm bm2 : Nat} {rs : List Rng} {mk cs m6 m7 : List Area} (hchk : chkR rs = 0) (h0 : mk.map (·.r) = rs) (h : StR2 w bm bm2 (mk.map markA) cs m6 wr) (hp : m7.Perm m6) (hs : sortedA m7) : ChgF rs cs m6 (allG m7) := by
  have hr6 : m6.map (·.r) = rs := (ranges_of_ry h.ry).trans ((markA_ranges mk).trans h0)
  have hu : UniqR (m6.map (·.r)) := by rw [hr6]; exact uniq_of_chk hchk
  have hl : ∀ a ∈ m6, (a.xs.length : Int) = a.r.sz := fun a ha => (h.mem.each a ha).lx
  have hrc : cs.map (·.r) = rs := by
    have := congrArg (List.map Prod.fst) h.key
    rw [List.map_map, List.map_map] at this
    exact (show cs.map (·.r) = (mk.map markA).map (·.r) from this).trans ((markA_ranges mk).trans h0)
  have huc : UniqR (cs.map (·.r)) := by rw [hrc]; exact uniq_of_chk hchk
  obtain ⟨hsum, hsep⟩ := told_sum hp hs hu hl
  refine ⟨hsep, hsum, fun a ha k hk => told_iff hp hs hu hl ha hk, fun a ha k hk => load_in hu ha hk (hl a ha), fun a ha k hk => ?_, hr6⟩
  obtain ⟨i, hi, rfl⟩ := List.getElem_of_mem ha
  have hlen6 : m6.length = (mk.map markA).length := by have := congrArg List.length h.ry; simpa using this
  have hlenc : cs.length = (mk.map markA).length := by have := congrArg List.length h.key; simpa using this
  have hi0 : i < (mk.map markA).length := by omega
  have hic : i < cs.length := by omega
  have e1 : (m6[i].r, m6[i].ys) = ((mk.map markA)[i].r, (mk.map markA)[i].ys) := by
    have := congrArg (·[i]?) h.ry
    simp only [List.getElem?_map, List.getElem?_eq_getElem hi, List.getElem?_eq_getElem hi0, Option.map_some, Option.some.injEq] at this
    exact this
  have e2 : (cs[i]).key = ((mk.map markA)[i]).key := by
    have := congrArg (·[i]?) h.key
    simp only [List.getElem?_map, List.getElem?_eq_getElem hic, List.getElem?_eq_getElem hi0, Option.map_some, Option.some.injEq] at this
    exact this
  have e3 : ((mk.map markA)[i]).ys = ((mk.map markA)[i]).xs := by simp [markA]
  unfold Area.key at e2
  simp only [Prod.mk.injEq] at e1 e2
  have hr : cs[i].r = m6[i].r := e2.1.trans e1.1.symm
  have hx : cs[i].xs = m6[i].ys := e2.2.1.trans (e3.symm.trans e1.2.symm)
  have hly := (h.mem.each m6[i] (List.getElem_mem hi)).ly
  have hlx := hl m6[i] (List.getElem_mem hi)
  have := load_in huc (List.getElem_mem hic) (k := k) (by rw [hx]; omega) (by rw [hx, hr]; exact hly)
  rw [hr, hx] at this
  exact this
/-- Is an address told? -/
def inB (C : List (Int × Int)) (p : Int) : Bool := C.any fun g => decide (g.1 ≤ p) && decide (p < g.1 + g.2)
theorem inB_iff {C : List (Int × Int)} {p : Int} : inB C p = true ↔ ∃ g ∈ C, g.1 ≤ p ∧ p < g.1 + g.2 := by
  unfold inB
  simp
theorem inB_step {C : List (Int × Int)} {P : Int} {q : Nat} {f s : Int} (h : C[q]? = some (f, s)) : inB (C.take (q + 1)) P = (inB (C.take q) P || (decide (f ≤ P) && decide (P < f + s))) := by
  obtain ⟨hq, e⟩ := List.getElem?_eq_some_iff.1 h
  unfold inB
  rw [List.take_succ_eq_append_getElem hq, List.any_append, e]
  simp
set_option maxRecDepth 100000 in
set_option maxHeartbeats 16000000 in
theorem changes_any (lv bv av : Value) (rs : List Rng) (bs as_ : List Act') (w : World) (hl : RSlice w lv rs) (hbv : ASlice w bv bs) (hav : ASlice w av as_) :
    Calls Try.prog 3 #[lv, bv, av] w fun e w' => e = .returned (.bool true) ∧ Below w.heap.size w w' := by
  have HL := Lib.hid hl
  obtain ⟨Al, capl, rfl, hcl, hml, hnm, hcells⟩ := hl
  obtain ⟨Ab, capb, rfl, hcb, hmb, hbb, hbcells⟩ := hbv
  obtain ⟨Aa, capa, rfl, hca, hma, hab, hacells⟩ := hav
  have HRC := Lib.hid hcells
  have HBC := Lib.hid hbcells
  have HAC := Lib.hid hacells
  have HBB := Lib.hid hbb
  have HAB := Lib.hid hab
  clear hnm hcells hbcells hacells hbb hab
  obtain ⟨NL, hNL⟩ : ∃ NL, rs.length = NL := ⟨_, rfl⟩
  obtain ⟨NB, hNB⟩ : ∃ NB, bs.length = NB := ⟨_, rfl⟩
  obtain ⟨NA, hNA⟩ : ∃ NA, as_.length = NA := ⟨_, rfl⟩
  rw [hNL] at hcl HL ⊢
  rw [hNB] at hcb ⊢
  rw [hNA] at hca ⊢
  have HNL := Lib.hid hNL
  have HNB := Lib.hid hNB
  have HNA := Lib.hid hNA
  clear hNL hNB hNA
  unfold maxLen at hml hmb hma
  go_enter Try.func3, Try.ntmps3
  go_wp2_with fail
  refine (works_any _).mono ?_
  rintro e w0 ⟨rfl, hb0⟩
  have HB0 := Lib.hid hb0
  clear hb0
  go_wp2_with fail
  refine (new_any _ rs _ (HL.out.below HB0.out)).mono ?_
  rintro e w1 ⟨hb1, hcase⟩
  have HB1 := Lib.hid (HB0.out.trans (hb1.mono HB0.out.size))
  have hsz0 := HB0.out.size
  rcases hcase with ⟨hc, rfl⟩ | ⟨hc, bm, ms, rfl, hbm, hm, hf⟩
  · have hcb' : (chkR rs != 0) = true := by simp [hc]
    generalize chkR rs = c at *
    clear hc hb1
    go_wp2_with fail
    go_ret
    exact ⟨rfl, HB1.out⟩
  · have hOk : ∀ r ∈ rs, r.Ok := fun r hr => by
      rw [← hf.ranges] at hr
      obtain ⟨a, ha, rfl⟩ := List.mem_map.1 hr
      exact (hm.each a ha).ok
    have hNL16 : NL ≤ 16 := by
      have h1 := hm.few
      have h2 : ms.length = rs.length := by rw [← hf.ranges]; simp
      have := HNL.out
      omega
    have HST : Hid (StR w bm rs ms w1) := ⟨hm, hf.ranges, HB1.out, fun g hg => Nat.le_trans hsz0 (hf.new g hg)⟩
    have HC := Lib.hid hc
    have HOK := Lib.hid hOk
    clear hm hf hc hb1 hbm hOk
    go_wp2_with fail
    go_loop [9, 10] (fun s i => ∃ (k : Nat) (t : Int), k ≤ NL ∧ i = .int .i64 k ∧ s = .int .i64 t ∧ 0 ≤ t ∧ t ≤ 16777216 * (k : Int)) (fun _ i => NL - (intOf i).toNat)
    case atStart => exact ⟨0, 0, Nat.zero_le _, rfl, rfl, by omega, by omega⟩
    case round =>
      obtain ⟨k, t, hk, rfl, rfl, ht0, ht1⟩ := hrel
      by_cases hlt : k < NL
      · have hkl : k < rs.length := by rw [HNL.out]; exact hlt
        obtain ⟨g, off, rfl, hg, hrc⟩ := HRC.out (by rintro rfl; simp at hkl)
        have hz := hrc k hkl 2 _ rfl
        have hok := HOK.out rs[k] (List.getElem_mem hkl)
        obtain ⟨r, hr⟩ : ∃ r, rs[k] = r := ⟨_, rfl⟩
        rw [hr] at hz hok
        have c2 : w1.cell? ⟨g, off + k * 5 + 2, none⟩ = some (.int .i64 r.sz) := (HB1.out.cell (p := ⟨g, off + k * 5 + 2, none⟩) hg).trans hz
        have hs0 := hok.s0
        have hs1 := hok.s1
        clear hz hok hr hrc
        go_wp2_with fail
        go_round
        case rel => exact ⟨k + 1, t + r.sz, by omega, by go_num, rfl, by omega, by omega⟩
        case measure => simp [intOf]; omega
      · clear hk ht1
        by_cases hsum : 4096 < t
        · go_wp2_with fail
          go_ret
          exact ⟨rfl, HB1.out⟩
        · go_wp2_with fail
          clear hlt
          go_loopw [11] (fun i wr => ∃ (k : Nat) (mk : List Area), k ≤ NB ∧ i = .int .i64 k ∧ Hid (StR w bm rs mk wr)) (fun i _ => NB - (intOf i).toNat)
          case atStart => exact ⟨0, ms, Nat.zero_le _, rfl, HST.out⟩
          case round =>
            obtain ⟨j, mk, hj, rfl, HR⟩ := hrel
            by_cases hlt : j < NB
            · have hjl : j < bs.length := by rw [HNB.out]; exact hlt
              obtain ⟨g, off, rfl, hg, hac⟩ := HBC.out (by rintro rfl; simp at hjl)
              have hbd := HBB.out bs[j] (List.getElem_mem hjl)
              have z1 := hac j hjl 1 _ rfl
              have z2 := hac j hjl 2 _ rfl
              have z3 := hac j hjl 3 _ rfl
              obtain ⟨a, ha⟩ : ∃ a, bs[j] = a := ⟨_, rfl⟩
              rw [ha] at z1 z2 z3 hbd
              have c1 : wr.cell? ⟨g, off + j * 5 + 1, none⟩ = some (.int .u32 a.at_) := (HR.out.bel.cell (p := ⟨g, off + j * 5 + 1, none⟩) hg).trans z1
              have c2 : wr.cell? ⟨g, off + j * 5 + 2, none⟩ = some (.int .i64 a.n) := (HR.out.bel.cell (p := ⟨g, off + j * 5 + 2, none⟩) hg).trans z2
              have c3 : wr.cell? ⟨g, off + j * 5 + 3, none⟩ = some (.int .u32 a.w) := (HR.out.bel.cell (p := ⟨g, off + j * 5 + 3, none⟩) hg).trans z3
              obtain ⟨⟨b1, b2⟩, b3, b4⟩ := hbd
              have HRD := Lib.hid HR.out.drew
              clear z1 z2 z3 ha hac
              go_wp2_with fail
              go_still_tail 16, (by kernel_rfl)
              change wpList _ _ _ _ _ wr.drew
              generalize wr.drew = wd at HRD ⊢
              go_wp2_with fail
              refine (store_any bm mk a.at_ a.n a.w _ HRD.out.mem b1 b2 b3 b4).mono ?_
              rintro e w2 ⟨rfl, hm2, hk2, hr2⟩
              have HN := Lib.hid (HRD.out.store hm2 hk2 hr2)
              clear hm2 hk2 hr2
              go_wp2_with fail
              go_roundw
              case rel => exact ⟨j + 1, _, by omega, by go_num, HN.out⟩
              case measure => simp [intOf]; omega
            · go_wp2_with fail
              clear hlt hj
              refine (mark_any bm mk _ HR.out.mem).mono ?_
              rintro e w3 ⟨rfl, hm3, hk3, hr3⟩
              have HS3 := Lib.hid (HR.out.mark hm3 hk3 hr3)
              clear hm3 hk3 hr3
              go_wp2_with fail
              refine (clone_any bm (mk.map markA) _ HS3.out.mem).mono ?_
              rintro e w4 ⟨bm2, cs, rfl, hbm2, hm4, hkey, hrows4, hb4⟩
              have HS4 := Lib.hid (HS3.out.mem.start2 HS3.out hb4 hm4 hkey hrows4)
              clear hbm2 hm4 hkey hrows4 hb4
              go_wp2_with fail
              refine (changed_any bm (mk.map markA) _ HS4.out.mem).mono ?_
              rintro e w5 ⟨v5, ms5, rfl, hperm, _, ho5, hb5⟩
              have hz5 : allG ms5 = [] := allG_same (fun a ha => by
                obtain ⟨b, _, rfl⟩ := List.mem_map.1 (hperm.mem_iff.1 ha)
                rfl)
              rw [hz5] at ho5
              obtain ⟨A5, cap5, rfl, _⟩ := gRow_owns ho5
              have HS5 := Lib.hid (HS4.out.below hb5)
              clear ho5 hb5 hperm hz5
              go_wp2_with fail
              go_loopw [13] (fun i wr => ∃ (k : Nat) (m6 : List Area), k ≤ NA ∧ i = .int .i64 k ∧ Hid (StR2 w bm bm2 (mk.map markA) cs m6 wr)) (fun i _ => NA - (intOf i).toNat)
              case atStart => exact ⟨0, _, Nat.zero_le _, rfl, HS5.out⟩
              case round =>
                obtain ⟨q, m6, hq, rfl, HQ⟩ := hrel
                by_cases hlt : q < NA
                · have hjl : q < as_.length := by rw [HNA.out]; exact hlt
                  obtain ⟨g, off, rfl, hg, hac⟩ := HAC.out (by rintro rfl; simp at hjl)
                  have hbd := HAB.out as_[q] (List.getElem_mem hjl)
                  have z1 := hac q hjl 1 _ rfl
                  have z2 := hac q hjl 2 _ rfl
                  have z3 := hac q hjl 3 _ rfl
                  obtain ⟨a, ha⟩ : ∃ a, as_[q] = a := ⟨_, rfl⟩
                  rw [ha] at z1 z2 z3 hbd
                  have c1 : wr.cell? ⟨g, off + q * 5 + 1, none⟩ = some (.int .u32 a.at_) := (HQ.out.bel.cell (p := ⟨g, off + q * 5 + 1, none⟩) hg).trans z1
                  have c2 : wr.cell? ⟨g, off + q * 5 + 2, none⟩ = some (.int .i64 a.n) := (HQ.out.bel.cell (p := ⟨g, off + q * 5 + 2, none⟩) hg).trans z2
                  have c3 : wr.cell? ⟨g, off + q * 5 + 3, none⟩ = some (.int .u32 a.w) := (HQ.out.bel.cell (p := ⟨g, off + q * 5 + 3, none⟩) hg).trans z3
                  obtain ⟨⟨b1, b2⟩, b3, b4⟩ := hbd
                  have HRD := Lib.hid HQ.out.drew
                  clear z1 z2 z3 ha hac
                  go_wp2_with fail
                  go_still_tail 16, (by kernel_rfl)
                  change wpList _ _ _ _ _ wr.drew
                  generalize wr.drew = wd at HRD ⊢
                  go_wp2_with fail
                  refine (store_any bm m6 a.at_ a.n a.w _ HRD.out.mem b1 b2 b3 b4).mono ?_
                  rintro e w6 ⟨rfl, hm2, hk2, hr2⟩
                  have HN := Lib.hid (HRD.out.store hm2 hk2 hr2)
                  clear hm2 hk2 hr2
                  go_wp2_with fail
                  go_roundw
                  case rel => exact ⟨q + 1, _, by omega, by go_num, HN.out⟩
                  case measure => simp [intOf]; omega
                · go_wp2_with fail
                  clear hlt hq
                  refine (changed_any bm m6 _ HQ.out.mem).mono ?_
                  rintro e w7 ⟨v7, m7, rfl, hperm, hsort, ho7, hb7⟩
                  have HF := Lib.hid (changes_facts HC.out HR.out.ranges HQ.out hperm hsort)
                  have hG7 := gRow_owns ho7
                  have HS7 := Lib.hid (HQ.out.below hb7)
                  have hgok := allG_ok m7 (fun a ha => HQ.out.mem.each a (hperm.mem_iff.1 ha))
                  have hglen := allG_len m7 (fun a ha => HQ.out.mem.each a (hperm.mem_iff.1 ha))
                  have hm7 : m7.length ≤ 16 := by have := HQ.out.mem.few; have := hperm.length_eq; omega
                  obtain ⟨C, hCd⟩ : ∃ C, allG m7 = C := ⟨_, rfl⟩
                  rw [hCd] at hG7 hgok hglen
                  rw [hCd] at HF
                  have HG7 := Lib.hid hG7
                  obtain ⟨A7, cap7, rfl, hcap7, hmax7, hcell7⟩ := hG7
                  obtain ⟨NC, hNC⟩ : ∃ NC, C.length = NC := ⟨_, rfl⟩
                  rw [hNC] at hcap7 hglen
                  rw [hNC]
                  have hNCb : NC ≤ 268435456 := by omega
                  have HNC := Lib.hid hNC
                  have HCC := Lib.hid hcell7
                  have HGOK := Lib.hid hgok
                  unfold maxLen at hmax7
                  clear ho7 hb7 hperm hsort hCd hNC hcell7 hgok hglen hm7
                  go_wp2_with fail
                  go_loopw [15] (fun i wr => ∃ j : Nat, (j < NC ∨ j = 0) ∧ i = .int .i64 ((j : Int) + 1) ∧ Hid (∃ q, wr = w7.drewN q)) (fun i _ => NC + 1 - (intOf i).toNat)
                  case atStart => exact ⟨0, Or.inr rfl, rfl, 0, rfl⟩
                  case round =>
                    obtain ⟨p, hp, rfl, HQ2⟩ := hrel
                    obtain ⟨q2, rfl⟩ := HQ2.out
                    clear HQ2
                    by_cases hlt : p + 1 < NC
                    · have hpl : p < C.length := by rw [HNC.out]; omega
                      have hpl1 : p + 1 < C.length := by rw [HNC.out]; omega
                      obtain ⟨gc, rfl, hgc, hcc⟩ := HCC.out (by rintro rfl; simp at hpl)
                      obtain ⟨f, s, hp1⟩ : ∃ f s, C[p]? = some (f, s) := ⟨_, _, List.getElem?_eq_getElem hpl⟩
                      obtain ⟨f', s', hp2⟩ : ∃ f s, C[p + 1]? = some (f, s) := ⟨_, _, List.getElem?_eq_getElem hpl1⟩
                      have hsep : f + s < f' := HF.out.sep_at hp1 hp2
                      have d1 := hcc _ _ (flatG_at hp1).1
                      have d2 := hcc _ _ (flatG_at hp1).2
                      have d3 := hcc _ _ (flatG_at hp2).1
                      dsimp only at d1 d2 d3
                      have hb := HGOK.out (f, s) (List.mem_of_getElem? hp1)
                      obtain ⟨hb1, hb2, hb3⟩ := hb
                      dsimp only at hb1 hb2 hb3
                      clear hp1 hp2 hcc hgc
                      have e1 : IntKind.i64.wrap ((p : Int) + 1 - 1) = p := by rw [IntWalk.i64_in _ (by omega)]; omega
                      have e2 : IntKind.i64.wrap (f + s) = f + s := IntWalk.i64_in _ (by omega)
                      have e3 : (0 : Int) ≤ (p : Int) + 1 := by omega
                      have e4 : ((p : Int) + 1).toNat = p + 1 := by omega
                      have e5 : (0 : Int) ≤ (p : Int) := by omega
                      have e6 : (p : Int) < ((NC : Nat) : Int) := by omega
                      have e7 : (p : Int) + 1 < ((NC : Nat) : Int) := by omega
                      have e8 : decide (f' ≤ f + s) = false := by simp; omega
                      go_wp2_with fail
                      go_quiet (fail)
                      clear e1 e2 e4
                      go_wp2_with fail
                      go_roundw
                      case rel => exact ⟨p + 1, by omega, by go_num, _, rfl⟩
                      case measure => simp [intOf]; omega
                    · go_wp2_with fail
                      clear hlt hp
                      have hb78 : Below w7.heap.size w7 (w7.drewN q2) := below_dN (Below.refl _ _) q2
                      generalize w7.drewN q2 = w8 at hb78 ⊢
                      have HB78 := Lib.hid hb78
                      clear hb78
                      have hm6l : m6.length = NL := by have h1 := HF.out.ranges; have h2 := congrArg List.length h1; rw [List.length_map] at h2; rw [h2]; exact HNL.out
                      have HM6L := Lib.hid hm6l
                      clear hm6l
                      go_wp2_with fail
                      go_loopw [16, 17] (fun o i wr => ∃ k T : Nat, k ≤ NL ∧ i = .int .i64 k ∧ o = .int .i64 T ∧ T ≤ 16777216 * k ∧ Hid (T = (chgD (m6.take k)).length) ∧ Hid (Below w7.heap.size w7 wr)) (fun _ i _ => NL - (intOf i).toNat)
                      case atStart => exact ⟨0, 0, Nat.zero_le _, rfl, rfl, by omega, rfl, HB78.out⟩
                      case round =>
                        obtain ⟨k2, T, hk2, rfl, rfl, hT, HT, HBR⟩ := hrel
                        by_cases hlt : k2 < NL
                        · have hkl : k2 < rs.length := by rw [HNL.out]; exact hlt
                          have hkm : k2 < m6.length := by rw [HM6L.out]; exact hlt
                          obtain ⟨g, off, rfl, hg, hrc⟩ := HRC.out (by rintro rfl; simp at hkl)
                          have hra : rs[k2] = (m6[k2]).r := by
                            have h1 := congrArg (·[k2]?) HF.out.ranges
                            simp only [List.getElem?_map, List.getElem?_eq_getElem hkm, List.getElem?_eq_getElem hkl, Option.map_some, Option.some.injEq] at h1
                            exact h1.symm
                          have z1 : w.cell? ⟨g, off + k2 * 5 + 1, none⟩ = some (.int .i64 (m6[k2]).r.fr) := by rw [← hra]; exact hrc k2 hkl 1 _ rfl
                          have z2 : w.cell? ⟨g, off + k2 * 5 + 2, none⟩ = some (.int .i64 (m6[k2]).r.sz) := by rw [← hra]; exact hrc k2 hkl 2 _ rfl
                          have ham := List.getElem_mem hkm
                          have hdk : chgD (m6.take (k2 + 1)) = chgD (m6.take k2) ++ chgA m6[k2] := by unfold chgD; rw [List.take_succ_eq_append_getElem hkm, List.flatMap_append]; simp
                          obtain ⟨a, hak⟩ : ∃ a, m6[k2] = a := ⟨_, rfl⟩
                          rw [hak] at z1 z2 ham hdk
                          have haa := HS7.out.mem.each a ham
                          obtain ⟨L, hL⟩ : ∃ L, a.xs.length = L := ⟨_, rfl⟩
                          have hLs : a.r.sz = (L : Int) := by rw [← haa.lx, hL]
                          rw [hLs] at z2
                          have hL1 : L ≤ 16777216 := by have := haa.ok.s1; omega
                          have hf0 := haa.ok.f0
                          have hf1 : a.r.fr + (L : Int) ≤ 4294967296 := by have := haa.ok.fs; omega
                          have Z1 := Lib.hid ((HS7.out.bel.cell (p := ⟨g, off + k2 * 5 + 1, none⟩) hg).trans z1)
                          have Z2 := Lib.hid ((HS7.out.bel.cell (p := ⟨g, off + k2 * 5 + 2, none⟩) hg).trans z2)
                          have hg7 : g < w7.heap.size := Nat.lt_of_lt_of_le hg HS7.out.bel.size
                          have HAM := Lib.hid ham
                          have HDK := Lib.hid hdk
                          have HLL := Lib.hid hL
                          have HBX := Lib.hid haa.bx
                          have HBY := Lib.hid haa.bY
                          clear hra z1 z2 ham hdk hak haa hL hLs hrc
                          go_wp2_with fail
                          obtain ⟨wo, rfl⟩ : ∃ wo : World, wo = wr := ⟨_, rfl⟩
                          go_loopw [16, 18] (fun o i wr => ∃ j T2 : Nat, j ≤ L ∧ i = .int .i64 j ∧ o = .int .i64 T2 ∧ T2 ≤ 16777216 * k2 + j ∧ Hid (T2 = T + (chgJ a j).length) ∧ Hid (Below w7.heap.size w7 wr)) (fun _ i _ => L - (intOf i).toNat)
                          case atStart => exact ⟨0, T, Nat.zero_le _, rfl, rfl, by omega, rfl, HBR.out⟩
                          case round =>
                            obtain ⟨j, T2, hj, rfl, rfl, hT2, HT2, HBI⟩ := hrel
                            have y1 := (HBI.out.cell (p := ⟨g, off + k2 * 5 + 1, none⟩) hg7).trans Z1.out
                            have y2 := (HBI.out.cell (p := ⟨g, off + k2 * 5 + 2, none⟩) hg7).trans Z2.out
                            by_cases hlt2 : j < L
                            · have hjx : j < a.xs.length := by rw [HLL.out]; exact hlt2
                              have hnow := HF.out.now a HAM.out j hjx
                              have hwas := HF.out.was a HAM.out j hjx
                              have htold := HF.out.told a HAM.out j hjx
                              obtain ⟨x, hx⟩ : ∃ x, a.xs.getD j 0 = x := ⟨_, rfl⟩
                              obtain ⟨y, hy⟩ : ∃ y, a.ys.getD j 0 = y := ⟨_, rfl⟩
                              have hstep : (chgJ a (j + 1)).length = (chgJ a j).length + if x = y then 0 else 1 := by
                                show (if a.xs.getD j 0 = a.ys.getD j 0 then chgJ a j else chgJ a j ++ [a.r.fr + (j : Int)]).length = _
                                rw [hx, hy]
                                split <;> simp
                              rw [hx] at hnow htold
                              rw [hy] at hwas htold
                              have HSTEP := Lib.hid hstep
                              have HNOW := Lib.hid hnow
                              have HWAS := Lib.hid hwas
                              have HTOLD := Lib.hid htold
                              clear hstep hx hy hnow hwas htold
                              have hmi := HS7.out.below HBI.out
                              have HMI := Lib.hid hmi
                              clear hmi
                              go_wp2_with fail
                              refine (load_any bm m6 _ 1 _ HMI.out.mem (by omega) (by omega)).mono ?_
                              rintro e w9 ⟨rfl, hb9⟩
                              rw [HNOW.out]
                              have HM9 := Lib.hid (HMI.out.below hb9)
                              have HB9 := Lib.hid (HBI.out.trans (hb9.mono HBI.out.size))
                              clear hb9 y1 y2
                              go_wp2_with fail
                              refine (load_any bm2 cs _ 1 _ HM9.out.mem2 (by omega) (by omega)).mono ?_
                              rintro e w10 ⟨rfl, hb10⟩
                              rw [HWAS.out]
                              have HM10 := Lib.hid (HM9.out.below hb10)
                              have HB10 := Lib.hid (HB9.out.trans (hb10.mono HB9.out.size))
                              clear hb10 HNOW HWAS
                              obtain ⟨P, hP⟩ : ∃ P : Int, a.r.fr + (j : Int) = P := ⟨_, rfl⟩
                              have hPb : 16 ≤ P ∧ P ≤ 4294967295 := by omega
                              obtain ⟨hP0, hP1⟩ := hPb
                              rw [hP] at HTOLD ⊢
                              have HPD := Lib.hid hP
                              clear hP
                              go_wp2_with fail
                              obtain ⟨wo2, rfl⟩ : ∃ wo2 : World, wo2 = wr := ⟨_, rfl⟩
                              go_loopw [24, 25] (fun b i wr => ∃ (q3 : Nat) (B : Bool), q3 ≤ NC ∧ i = .int .i64 q3 ∧ b = .bool B ∧ Hid (B = inB (C.take q3) P) ∧ Hid (∃ z, wr = w10.drewN z)) (fun _ i _ => NC - (intOf i).toNat)
                              case atStart => exact ⟨0, false, Nat.zero_le _, rfl, rfl, rfl, 0, rfl⟩
                              case round =>
                                obtain ⟨q3, B, hq3, rfl, rfl, HBB3, HQ3⟩ := hrel
                                obtain ⟨z3, rfl⟩ := HQ3.out
                                clear HQ3
                                by_cases hlt3 : q3 < NC
                                · have hql : q3 < C.length := by rw [HNC.out]; exact hlt3
                                  obtain ⟨gc, rfl, hgc, hcc⟩ := HCC.out (by rintro rfl; simp at hql)
                                  obtain ⟨f, s, hp1⟩ : ∃ f s, C[q3]? = some (f, s) := ⟨_, _, List.getElem?_eq_getElem hql⟩
                                  have d1 := (HB10.out.cell (p := ⟨gc, q3 * 2, none⟩) hgc).trans (hcc _ _ (flatG_at hp1).1)
                                  have d2 := (HB10.out.cell (p := ⟨gc, q3 * 2 + 1, none⟩) hgc).trans (hcc _ _ (flatG_at hp1).2)
                                  dsimp only at d1 d2
                                  obtain ⟨hb1, hb2, hb3⟩ := HGOK.out (f, s) (List.mem_of_getElem? hp1)
                                  dsimp only at hb1 hb2 hb3
                                  have hnx := inB_step (P := P) hp1
                                  have HNX := Lib.hid hnx
                                  clear hp1 hcc hgc hnx
                                  have e2 : IntKind.i64.wrap (f + s) = f + s := IntWalk.i64_in _ (by omega)
                                  have e5 : (0 : Int) ≤ (q3 : Int) := by omega
                                  have e6 : (q3 : Int) < ((NC : Nat) : Int) := by omega
                                  cases B with
                                  | true =>
                                    have HN3 : Hid (true = inB (C.take (q3 + 1)) P) := by show true = _; rw [HNX.out, ← HBB3.out]; rfl
                                    go_wp2_with fail
                                    go_quiet (fail)
                                    clear e2
                                    go_wp2_with fail
                                    go_roundw
                                    case rel => exact ⟨q3 + 1, _, by omega, by go_num, rfl, HN3.out, _, rfl⟩
                                    case measure => simp [intOf]; omega
                                  | false =>
                                    by_cases h1 : f ≤ P
                                    · by_cases h2 : P < f + s
                                      · have HN3 : Hid (true = inB (C.take (q3 + 1)) P) := by show true = _; rw [HNX.out, ← HBB3.out]; simp [h1, h2]
                                        go_wp2_with fail
                                        go_quiet (fail)
                                        clear e2
                                        go_wp2_with fail
                                        go_roundw
                                        case rel => exact ⟨q3 + 1, _, by omega, by go_num, rfl, by first | exact HN3.out | simpa [h1, h2] using HN3.out, _, rfl⟩
                                        case measure => simp [intOf]; omega
                                      · have HN3 : Hid (false = inB (C.take (q3 + 1)) P) := by show false = _; rw [HNX.out, ← HBB3.out]; simp [h2]
                                        have h2' : decide (P < f + s) = false := by simpa using h2
                                        go_wp2_with fail
                                        go_quiet (fail)
                                        clear e2
                                        go_wp2_with fail
                                        go_roundw
                                        case rel => exact ⟨q3 + 1, _, by omega, by go_num, rfl, by first | exact HN3.out | simpa [h1, h2'] using HN3.out, _, rfl⟩
                                        case measure => simp [intOf]; omega
                                    · have HN3 : Hid (false = inB (C.take (q3 + 1)) P) := by show false = _; rw [HNX.out, ← HBB3.out]; simp [h1]
                                      have h1' : decide (f ≤ P) = false := by simpa using h1
                                      go_wp2_with fail
                                      go_quiet (fail)
                                      clear e2
                                      go_wp2_with fail
                                      go_roundw
                                      case rel => exact ⟨q3 + 1, _, by omega, by go_num, rfl, by first | exact HN3.out | simpa [h1'] using HN3.out, _, rfl⟩
                                      case measure => simp [intOf]; omega
                                · have hBf : B = decide (x ≠ y) := by
                                    rw [HBB3.out, List.take_of_length_le (by rw [HNC.out]; omega), Bool.eq_iff_iff, inB_iff, HTOLD.out]
                                    simp
                                  have HBW := Lib.hid (below_dN HB10.out z3)
                                  by_cases hxy : x = y
                                  · have hB0 : B = false := by rw [hBf]; simp [hxy]
                                    have HFIN : Hid (T2 = T + (chgJ a (j + 1)).length) := by show _ = _; rw [HSTEP.out, if_pos hxy]; exact HT2.out
                                    subst hB0
                                    subst hxy
                                    clear hBf
                                    go_wp2_with fail
                                    go_roundw
                                    case rel => exact ⟨j + 1, T2, by omega, by go_num, rfl, by omega, HFIN.out, HBW.out⟩
                                    case measure => simp [intOf]; omega
                                  · have hB0 : B = true := by rw [hBf]; simp [hxy]
                                    have hxb : (x != y) = true := by simp [hxy]
                                    have HFIN : Hid (T2 + 1 = T + (chgJ a (j + 1)).length) := by show _ = _; rw [HSTEP.out, if_neg hxy, HT2.out]; omega
                                    subst hB0
                                    clear hBf hxy
                                    go_wp2_with fail
                                    go_roundw
                                    case rel => exact ⟨j + 1, T2 + 1, by omega, by go_num, by go_num, by omega, HFIN.out, HBW.out⟩
                                    case measure => simp [intOf]; omega
                            · have HFIN : Hid (T2 = (chgD (m6.take (k2 + 1))).length) := by
                                show _ = _
                                rw [HDK.out, List.length_append, ← HT.out, HT2.out]
                                have : chgA a = chgJ a j := by unfold chgA; rw [HLL.out]; congr 1; omega
                                rw [this]
                              go_wp2_with fail
                              go_roundw
                              case rel => exact ⟨k2 + 1, T2, by omega, by go_num, rfl, by omega, HFIN.out, HBI.out⟩
                              case measure => simp [intOf]; omega
                        · have hTf : T = (chgD m6).length := by rw [HT.out, List.take_of_length_le (by rw [HM6L.out]; omega)]
                          have HTF := Lib.hid hTf
                          have hTb : T ≤ 268435456 := by omega
                          clear hTf
                          go_wp2_with fail
                          have hw0 : ∃ z, wr = wr.drewN z := ⟨0, rfl⟩
                          obtain ⟨wz, hwz⟩ : ∃ wz : World, wr = wz := ⟨_, rfl⟩
                          have HBZ : Hid (Below w7.heap.size w7 wz) := by rw [← hwz]; exact HBR
                          have HCSUM := Lib.hid (HF.out.sum)
                          subst hwz
                          go_loopw [26, 27] (fun o i ww => ∃ (q4 : Nat) (S : Int), q4 ≤ NC ∧ i = .int .i64 q4 ∧ o = .int .i64 S ∧ 0 ≤ S ∧ S ≤ 4294967296 * (q4 : Int) ∧ Hid (S = ((C.take q4).map (·.2)).sum) ∧ Hid (∃ z, ww = wr.drewN z)) (fun _ i _ => NC - (intOf i).toNat)
                          case atStart => exact ⟨0, 0, Nat.zero_le _, rfl, rfl, by omega, by omega, by simp [Hid], 0, rfl⟩
                          case round =>
                            obtain ⟨q4, S, hq4, rfl, rfl, hS0, hS1, HSS, HQ4⟩ := hrel
                            obtain ⟨z4, rfl⟩ := HQ4.out
                            clear HQ4
                            by_cases hlt4 : q4 < NC
                            · have hql : q4 < C.length := by rw [HNC.out]; exact hlt4
                              obtain ⟨gc, rfl, hgc, hcc⟩ := HCC.out (by rintro rfl; simp at hql)
                              obtain ⟨f, s, hp1⟩ : ∃ f s, C[q4]? = some (f, s) := ⟨_, _, List.getElem?_eq_getElem hql⟩
                              have d2 := (HBZ.out.cell (p := ⟨gc, q4 * 2 + 1, none⟩) hgc).trans (hcc _ _ (flatG_at hp1).2)
                              dsimp only at d2
                              obtain ⟨hb1, hb2, hb3⟩ := HGOK.out (f, s) (List.mem_of_getElem? hp1)
                              dsimp only at hb1 hb2 hb3
                              have HN4 : Hid (S + s = ((C.take (q4 + 1)).map (·.2)).sum) := by
                                show S + s = _
                                have e : C[q4] = (f, s) := by rw [List.getElem?_eq_getElem hql] at hp1; exact Option.some.inj hp1
                                rw [List.take_succ_eq_append_getElem hql, List.map_append, List.sum_append, ← HSS.out, e]
                                simp
                              clear hp1 hcc hgc
                              have e2 : IntKind.i64.wrap (S + s) = S + s := IntWalk.i64_in _ (by omega)
                              have e5 : (0 : Int) ≤ (q4 : Int) := by omega
                              have e6 : (q4 : Int) < ((NC : Nat) : Int) := by omega
                              go_wp2_with fail
                              go_roundw
                              case rel => exact ⟨q4 + 1, S + s, by omega, by go_num, by first | rfl | go_num, by omega, by omega, HN4.out, _, rfl⟩
                              case measure => simp [intOf]; omega
                            · have hST : S = (T : Int) := by
                                have h1 := HSS.out
                                rw [List.take_of_length_le (by rw [HNC.out]; omega), HCSUM.out] at h1
                                rw [h1, HTF.out]
                              subst hST
                              have HBW := Lib.hid (HS7.out.bel.trans ((below_dN HBZ.out z4).mono HS7.out.bel.size))
                              go_wp2_with fail
                              go_ret
                              exact ⟨rfl, HBW.out⟩
end Go.Proofs.Ytbffclcjhcbejaa
