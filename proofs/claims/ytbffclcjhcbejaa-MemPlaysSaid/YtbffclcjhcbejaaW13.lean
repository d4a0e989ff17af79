/- Walks: (*Mem).Changed. Conditions: none. -/
import Derived.Test.YtbffclcjhcbejaaW12
namespace Go.Proofs.Ytbffclcjhcbejaa
open Go.RowKit
theorem info40f : (Try.prog.info? 40).map (fun i => (i.zero, i.size, i.bytes)) = some (some (.agg #[.int .i64 0, .int .i64 0]), 2, 16) := by kernel_rfl
def ChgPost (ms : List Area) (w : World) (e : Ending) (w' : World) : Prop :=
  ∃ v ms', e = .returned v ∧ ms'.Perm ms ∧ sortedA ms' ∧ w'.ownsRow w.heap.size 40 2 v (allG ms').length (flatG (allG ms')) ∧ Below w.heap.size w w'
/-- Where the outer loop stands. -/
structure ChgO (w w2 : World) (ms : List Area) (k : Nat) (out : Value) (wr : World) : Prop where
  row : wr.ownsRow w2.heap.size 40 2 out (allG (ms.take k)).length (flatG (allG (ms.take k)))
  bel : Below w2.heap.size w2 wr
/-- .. and the inner one. -/
structure ChgI (w w2 : World) (a : Area) (gs : List (Int × Int)) (j : Nat) (out : Value) (wr : World) : Prop where
  row : wr.ownsRow w2.heap.size 40 2 out (areaG a gs j).length (flatG (areaG a gs j))
  bel : Below w2.heap.size w2 wr
theorem slice_form {w : World} {B : Nat} {e : TypeId} {size : Nat} {v : Value} {n : Nat} {xs : List Value} (h : w.ownsRow B e size v n xs) : ∃ A cap, v = .slice A n cap ∧ n ≤ cap ∧ cap ≤ maxLen := by
  rcases h.2 with ⟨rfl, rfl⟩ | ⟨g, cap, cur, rfl, _, _, h1, h2, _⟩
  · exact ⟨none, 0, rfl, by omega, by decide⟩
  · exact ⟨_, cap, rfl, h1, h2⟩
theorem own_kind {w : World} {B : Nat} {v : Value} {n g : Nat} {xs : List Value} (h : w.ownsRow B 63 1 v n xs) (e : v.ownBlock = some g) : ∃ cur, Blk w g 63 cur := by
  rcases h.2 with ⟨rfl, _⟩ | ⟨g', cap, cur, rfl, _, hb, _⟩
  · simp [Value.ownBlock] at e
  · have : g' = g := by simpa [Value.ownBlock] using e
    subst this
    exact ⟨cur, hb⟩
theorem row_cells {w : World} {B : Nat} {A : Option Addr} {cap : Nat} {l : List Area} (h : w.ownsRow B 63 1 (.slice A l.length cap) l.length (l.map fun a => ptrV a.b)) (hne : 0 < l.length) :
    ∃ g, A = some ⟨g, 0, none⟩ ∧ g < w.heap.size ∧ ∀ k (hk : k < l.length), w.cell? ⟨g, k, none⟩ = some (ptrV l[k].b) := by
  rcases h.2 with ⟨_, h0⟩ | ⟨g, cap', cur, hv, _, hb, h1, h2, _⟩
  · omega
  · cases hv
    refine ⟨g, rfl, Blk.lt (t := 63) hb, fun k hk => ?_⟩
    rw [h.cellAt k (by omega), List.getElem?_map, List.getElem?_eq_getElem hk]
    rfl
theorem byte_cell {w : World} {v : Value} {xs : List Int} {A : Option Addr} {L cap j : Nat} (h : BRow w v xs) (hv : v = .slice A L cap) (hj : j < L) (hl : xs.length = L) :
    ∃ g, A = some ⟨g, 0, none⟩ ∧ g < w.heap.size ∧ w.cell? ⟨g, j, none⟩ = some (.int .u8 (xs.getD j 0)) := by
  obtain ⟨g, cap', cur, hv', _, _, hb, _, ht⟩ := h.open_ (by omega)
  rw [hv] at hv'
  cases hv'
  refine ⟨g, rfl, hb.lt, ?_⟩
  rw [hb.cell, row_get ht j (by omega)]
  simp [List.getD, show j < xs.length by omega]
section
variable {w w2 wr : World} {a : Area} {gs : List (Int × Int)} {j : Nat} {out : Value}
theorem ChgI.same (h : ChgI w w2 a gs j out wr) (he : (a.xs.getD j 0 == a.ys.getD j 0) = true) (q : Nat) : ChgI w w2 a gs (j + 1) out (wr.drewN q) := by
  have e : areaG a gs (j + 1) = areaG a gs j := by
    have : a.xs.getD j 0 = a.ys.getD j 0 := by simpa using he
    show (if a.xs.getD j 0 = a.ys.getD j 0 then _ else _) = _
    rw [if_pos this]
  refine ⟨?_, below_dN h.bel q⟩
  rw [e]
  exact h.row
theorem areaG_put (he : (a.xs.getD j 0 == a.ys.getD j 0) = false) : areaG a gs (j + 1) = putG (areaG a gs j) (a.r.fr + j) := by
  have : ¬ a.xs.getD j 0 = a.ys.getD j 0 := by simpa using he
  show (if a.xs.getD j 0 = a.ys.getD j 0 then _ else _) = _
  rw [if_neg this]
end
theorem ownsRow_dN {w : World} {B : Nat} {e : TypeId} {size : Nat} {v : Value} {n : Nat} {xs : List Value} (h : w.ownsRow B e size v n xs) (q : Nat) : (w.drewN q).ownsRow B e size v n xs := h
section
variable {w w2 wr : World} {a : Area} {gs : List (Int × Int)} {j : Nat} {out : Value}
theorem ChgI.new (h : ChgI w w2 a gs j out wr) {at_ : Int} (he : areaG a gs (j + 1) = areaG a gs j ++ [(at_, 1)]) {W w3 : World} {v' : Value} {n : Nat} {xs : List Value} (hW : Below w2.heap.size w2 W) (hn : n = (areaG a gs j).length) (hx : xs = flatG (areaG a gs j)) (ho : w3.ownsRow w2.heap.size 40 2 v' (n + 1) (xs ++ [.int .i64 at_, .int .i64 1]))
    (hg : W.grownBy w3 out.ownBlock) : ChgI w w2 a gs (j + 1) v' w3 := by
  subst hn hx
  refine ⟨?_, hW.grown hg hW.size (fun g e => (h.row.lt g e).1)⟩
  rw [he, List.length_append, flatG_append]
  exact ho
theorem ChgI.join (h : ChgI w w2 a gs j out wr) {g0 : List (Int × Int)} {f s : Int} (hs : areaG a gs j = g0 ++ [(f, s)]) (he : areaG a gs (j + 1) = g0 ++ [(f, s + 1)]) {go cap : Nat} (hout : out = .slice (some ⟨go, 0, none⟩) (g0.length + 1) cap) (q : Nat) :
    ChgI w w2 a gs (j + 1) out ((wr.setCell ⟨go, g0.length * 2 + 1, none⟩ (.int .i64 (s + 1))).drewN q) := by
  have hr := h.row
  rw [hs] at hr
  have hl : (g0 ++ [(f, s)]).length = g0.length + 1 := by simp
  rw [hl, hout] at hr
  obtain ⟨h1, h2⟩ := hr.stored (g0.length * 2 + 1) (.int .i64 (s + 1))
  refine ⟨?_, below_dN (h.bel.grown h2 h.bel.size (fun g e => by cases e; exact (hr.lt _ rfl).1)) q⟩
  rw [he, hout]
  have hl2 : (g0 ++ [(f, s + 1)]).length = g0.length + 1 := by simp
  rw [hl2]
  have hset : (flatG (g0 ++ [(f, s)])).set (g0.length * 2 + 1) (.int .i64 (s + 1)) = flatG (g0 ++ [(f, s + 1)]) := by
    rw [flatG_append, flatG_append, List.set_append_right _ _ (by rw [flatG_len]; omega), flatG_len]
    have : g0.length * 2 + 1 - g0.length * 2 = 1 := by omega
    rw [this]
    rfl
  rw [← hset]
  exact h1
end
theorem news_gap0 (X : World) (n : Nat) (p q : Value) (hn : n = X.heap.size) : ∀ j u, [p, q][j]? = some u → (X.alloc (.cells #[p, q] 40)).cell? ((⟨n, 0, none⟩ : Addr).add j) = some u := by
  subst hn
  intro j u hj
  rw [addr_add, Nat.zero_add, (Blk.new X 40 #[p, q]).cell]
  simpa using hj
theorem gap_one (a b : Int) : ∀ u ∈ [Value.int .i64 a, .int .i64 b], u.oneCell' = true := by
  intro u hu
  simp at hu
  rcases hu with rfl | rfl <;> rfl
theorem row_shape2 {w : World} {base : Nat} {e : TypeId} {size : Nat} {v : Value} {n : Nat} {xs : List Value} (h : w.ownsRow base e size v (n + 1) xs) : ∃ g cap, v = .slice (some ⟨g, 0, none⟩) (n + 1) cap := by
  rcases h.2 with ⟨_, h0⟩ | ⟨g, cap, cur, hv, _⟩
  · omega
  · exact ⟨g, cap, hv⟩
theorem news_gap (X : World) (n : Nat) (p q : Value) (hn : n = X.heap.size) (k : Nat) : ∀ j u, [p, q][j]? = some u → ((X.alloc (.cells #[p, q] 40)).drewN k).cell? ((⟨n, 0, none⟩ : Addr).add j) = some u := by
  subst hn
  intro j u hj
  show (X.alloc (.cells #[p, q] 40)).cell? _ = _
  rw [addr_add, Nat.zero_add, (Blk.new X 40 #[p, q]).cell]
  simpa using hj
theorem foldG_ok {w : World} : ∀ (ms : List Area) (gs : List (Int × Int)), GapOk gs → (∀ a ∈ ms, AreaAt w a) → GapOk (ms.foldl (fun gs a => areaG a gs a.xs.length) gs)
  | [], _, h, _ => h
  | a :: l, gs, h, hA => by
    have ha := hA a (by simp)
    exact foldG_ok l _ (areaG_ok h ha.ok _ (by have := ha.lx; omega)) (fun b hb => hA b (by simp [hb]))
theorem allG_ok {w : World} (ms : List Area) (h : ∀ a ∈ ms, AreaAt w a) : GapOk (allG ms) := foldG_ok ms [] (fun p hp => by cases hp) h
theorem foldG_len {w : World} : ∀ (ms : List Area) (gs : List (Int × Int)), (∀ a ∈ ms, AreaAt w a) → (ms.foldl (fun gs a => areaG a gs a.xs.length) gs).length ≤ gs.length + 16777216 * ms.length
  | [], _, _ => by simp
  | a :: l, gs, hA => by
    have ha := hA a (by simp)
    have h1 := foldG_len l (areaG a gs a.xs.length) (fun b hb => hA b (by simp [hb]))
    have h2 := areaG_len a gs a.xs.length
    have := ha.lx
    have := ha.ok.s1
    simp only [List.foldl_cons, List.length_cons]
    omega
theorem allG_len {w : World} (ms : List Area) (h : ∀ a ∈ ms, AreaAt w a) : (allG ms).length ≤ 16777216 * ms.length := by
  have := foldG_len ms [] h
  simpa [allG] using this
set_option maxRecDepth 100000 in
set_option maxHeartbeats 8000000 in
theorem changed_any (bm : Nat) (ms : List Area) (w : World) (hm : MemAt w bm ms) : Calls Try.prog 11 #[.pointer (some ⟨bm, 0, none⟩)] w (ChgPost ms w) := by
  obtain ⟨lv, hlv, hown⟩ := hm.top
  have hc0 : w.cell? ⟨bm, 0, none⟩ = some lv := by rw [hlv.cell]; rfl
  have hfew := hm.few
  have HM := Lib.hid hm
  have HOWN := Lib.hid hown
  clear hm hlv hown
  obtain ⟨i0, hi, hz0, hz1, hz2⟩ := info_parts info40f
  have HI0' := Lib.hid hi
  have HZ0 := Lib.hid hz0
  have HZ1 := Lib.hid hz1
  have HZ2 := Lib.hid hz2
  clear hi hz0 hz1 hz2
  go_enter Try.func11, Try.ntmps11
  go_wp2_with fail
  refine (cloneP _ ms _ HOWN.out hfew).mono ?_
  rintro e w1 ⟨v1, rfl, ho1, hb1⟩
  have hM1 := HM.out.below hb1
  have HB1 := Lib.hid hb1
  have HO1 := Lib.hid ho1
  have HM1 := Lib.hid hM1
  clear ho1 hb1 hM1 hc0
  obtain ⟨A1, cap1, rfl, hcap1, hmax1⟩ := slice_form HO1.out
  go_wp2_with fail
  refine (sortP (B := w.heap.size) _ ms w1 HM1.out.each HO1.out hfew).mono ?_
  rintro e w2 ⟨rfl, ms', hperm, hsort, ho2, hk2⟩
  have hl' : ms'.length = ms.length := hperm.length_eq
  have hB2 : Below w.heap.size w w2 := ((keeps_of_below (fun _ => False) HB1.out).trans hk2 (fun i hi e => by have := (HO1.out.lt i e).1; omega)).below
  have hM2 : ∀ a ∈ ms', AreaAt w2 a := fun a ha => (HM1.out.each a (hperm.mem_iff.1 ha)).keeps hk2 (fun e => by obtain ⟨cur, hb⟩ := own_kind HO1.out e; exact Blk.ne_ hb (HM1.out.each a (hperm.mem_iff.1 ha)).blk (by decide) rfl) (fun g hg e => by obtain ⟨cur, hb⟩ := own_kind HO1.out e; obtain ⟨c2, hb2⟩ := (HM1.out.each a (hperm.mem_iff.1 ha)).row_blk hg; exact Blk.ne_ hb hb2 (by decide) rfl)
  rw [← hl'] at ho2
  have hcells := fun h => row_cells ho2 h
  rw [← hl'] at hfew hcap1
  generalize hN : ms.length = N at *
  have HP := Lib.hid hperm
  have HSO := Lib.hid hsort
  have HB2 := Lib.hid hB2
  have HM2 := Lib.hid hM2
  have HC := Lib.hid hcells
  have HL := Lib.hid hl'
  clear hperm hsort hB2 hM2 hcells hl' hk2 ho2 hN
  unfold maxLen at hmax1
  have hS0 : ChgO w w2 ms' 0 (.slice none 0 0) w2 := ⟨World.ownsRow_nil _ _ _ _, Below.refl _ _⟩
  have HS0 := Lib.hid hS0
  clear hS0
  go_wp2_with fail
  go_loopw [4, 19] (fun out i wr => ∃ k : Nat, k ≤ N ∧ i = .int .i64 k ∧ Hid (ChgO w w2 ms' k out wr)) (fun _ i _ => N - (intOf i).toNat)
  case atStart => exact ⟨0, Nat.zero_le _, rfl, HS0.out⟩
  case round =>
    obtain ⟨k, hk, rfl, HR⟩ := hrel
    obtain ⟨wo, rfl⟩ : ∃ wo : World, wo = wr := ⟨_, rfl⟩
    by_cases hlt : k < N
    · have hkl : k < ms'.length := by rw [HL.out]; exact hlt
      obtain ⟨g1, rfl, hg1, hcl⟩ := HC.out (by omega)
      have ha := (HM2.out ms'[k] (List.getElem_mem hkl))
      have hc1 := (HR.out.bel.cell (p := ⟨g1, k, none⟩) hg1).trans (hcl k hkl)
      obtain ⟨a, hak⟩ : ∃ a, ms'[k] = a := ⟨_, rfl⟩
      rw [hak] at ha hc1
      have htk : ms'.take (k + 1) = ms'.take k ++ [a] := by rw [List.take_succ_eq_append_getElem hkl, hak]
      obtain ⟨gs, hgs⟩ : ∃ gs, allG (ms'.take k) = gs := ⟨_, rfl⟩
      have hnext : allG (ms'.take (k + 1)) = areaG a gs a.xs.length := by rw [htk, allG_snoc, hgs]
      unfold ptrV at hc1
      have HA := Lib.hid ha
      have HNEXT := Lib.hid hnext
      have HGS := Lib.hid hgs
      obtain ⟨L, hL⟩ : ∃ L, a.xs.length = L := ⟨_, rfl⟩
      have hly : a.ys.length = L := by have := ha.lx; have := ha.ly; omega
      obtain ⟨An, capn, hnow, hcn, hmn, _⟩ := ha.now
      obtain ⟨Aw, capw, hwas, hcw, hmw, _⟩ := ha.was
      rw [hL] at hnow hcn
      rw [hly] at hwas hcw
      have hc5 : w2.cell? ⟨a.b, 5, none⟩ = some (.slice An L capn) := by rw [ha.blk.cell, ← hnow]; rfl
      have hc6 : w2.cell? ⟨a.b, 6, none⟩ = some (.slice Aw L capw) := by rw [ha.blk.cell, ← hwas]; rfl
      have hc1' : w2.cell? ⟨a.b, 1, none⟩ = some (.int .i64 a.r.fr) := by rw [ha.blk.cell]; rfl
      have hab : a.b < w2.heap.size := ha.blk.lt
      have c5 : wo.cell? ⟨a.b, 5, none⟩ = some (.slice An L capn) := (HR.out.bel.cell (p := ⟨a.b, 5, none⟩) hab).trans hc5
      have HC5 := Lib.hid hc5
      have HC6 := Lib.hid hc6
      have HC1 := Lib.hid hc1'
      have HNOW := Lib.hid hnow
      have HWAS := Lib.hid hwas
      have HLL := Lib.hid hL
      have HLY := Lib.hid hly
      have hL1 : L ≤ 16777216 := by have := ha.lx; have := ha.ok.s1; omega
      have hfr0 := ha.ok.f0
      have hfr1 : a.r.fr + L ≤ 4294967296 := by have := ha.ok.fs; have := ha.lx; omega
      have hlenk : gs.length ≤ 16777216 * k := by rw [← hgs]; exact Nat.le_trans (allG_len _ (fun b hb => HM2.out b (List.mem_of_mem_take hb))) (Nat.mul_le_mul (Nat.le_refl _) (List.length_take_le _ _))
      have hgok : GapOk gs := by rw [← hgs]; exact allG_ok _ (fun b hb => HM2.out b (List.mem_of_mem_take hb))
      have HGOK := Lib.hid hgok
      have hI0 : ChgI w w2 a gs 0 u4 wo := ⟨by have := HR.out.row; rw [hgs] at this; exact this, HR.out.bel⟩
      have HI0 := Lib.hid hI0
      clear ha hnext hgs htk hak hcl hnow hwas hL hly hc5 hc6 hc1' hI0 hgok
      unfold maxLen at hmn hmw
      go_wp2_with fail
      go_loopw [4, 28] (fun out i wr => ∃ j : Nat, j ≤ L ∧ i = .int .i64 j ∧ Hid (ChgI w w2 a gs j out wr)) (fun _ i _ => L - (intOf i).toNat)
      case atStart => exact ⟨0, Nat.zero_le _, rfl, HI0.out⟩
      case round =>
        obtain ⟨j, hj, rfl, HI⟩ := hrel
        by_cases hjl : j < L
        · obtain ⟨gn, rfl, hgn, hbn⟩ := byte_cell HA.out.now HNOW.out hjl HLL.out
          obtain ⟨gw, rfl, hgw, hbw⟩ := byte_cell HA.out.was HWAS.out hjl HLY.out
          have d5 := (HI.out.bel.cell (p := ⟨a.b, 5, none⟩) hab).trans HC5.out
          have d6 := (HI.out.bel.cell (p := ⟨a.b, 6, none⟩) hab).trans HC6.out
          have d1 := (HI.out.bel.cell (p := ⟨a.b, 1, none⟩) hab).trans HC1.out
          have dn := (HI.out.bel.cell (p := ⟨gn, j, none⟩) hgn).trans hbn
          have dw := (HI.out.bel.cell (p := ⟨gw, j, none⟩) hgw).trans hbw
          obtain ⟨x, hx⟩ : ∃ x, a.xs.getD j 0 = x := ⟨_, rfl⟩
          obtain ⟨y, hy⟩ : ∃ y, a.ys.getD j 0 = y := ⟨_, rfl⟩
          rw [hx] at dn
          rw [hy] at dw
          have HX := Lib.hid hx
          have HY := Lib.hid hy
          clear hx hy hbn hbw
          cases hxy : (x == y) with
          | true =>
            have HS := Lib.hid (fun q => HI.out.same (by rw [HX.out, HY.out]; exact hxy) q)
            go_wp2_with fail
            go_quiet (fail)
            go_wp2_with fail
            go_roundw
            case rel => exact ⟨j + 1, by omega, by go_num, HS.out _⟩
            case measure => simp [intOf]; omega
          | false =>
            have hput := areaG_put (a := a) (gs := gs) (j := j) (by rw [HX.out, HY.out]; exact hxy)
            have hlenj := areaG_len a gs j
            have hat : IntKind.i64.wrap (a.r.fr + (j : Int)) = a.r.fr + j := IntWalk.i64_in _ (by omega)
            rcases gs_cases (areaG a gs j) with hnil | ⟨g0, f, s, hcs⟩
            · have hrow := HI.out.row
              have hnew : areaG a gs (j + 1) = areaG a gs j ++ [(a.r.fr + (j : Int), 1)] := by rw [hput, hnil]; rfl
              have HNEW := Lib.hid hnew
              have HNIL := Lib.hid hnil
              rw [hnil] at hrow
              simp only [List.length_nil] at hrow
              obtain ⟨Ao, capo, hout, _, hmo⟩ := slice_form hrow
              have HROW := Lib.hid hrow
              clear hrow hnew hput hlenj hnil hat
              subst hout
              unfold maxLen at hmo
              go_wp2_with fail
              go_quiet (fail)
              go_wp2_with fail
              go_quiet (fail)
              go_wp2_with (at_builtin; refine wpList_append_own _ rfl (.tmp 82) (.tmp 85) 37 rfl w2.heap.size 40 i0 (.agg #[.int .i64 0, .int .i64 0]) 2 16 Try.underlying37 HI0'.out HZ0.out HZ1.out HZ2.out rfl (by decide) (.slice Ao 0 capo) 0 [] rfl ?c0 ⟨wr.heap.size, 0, none⟩ 1 1 [.int .i64 (a.r.fr + (j : Int)), .int .i64 1] rfl rfl ?c1 ?c2 ?c3 ?c4 ?c5 ?_)
              case c0 => exact (ownsRow_dN HROW.out _).alloc _
              case c1 => exact news_gap0 _ _ _ _ rfl
              case c2 => exact gap_one _ _
              case c3 => decide
              case c4 => decide
              case c5 => have := HI.out.bel.size; simp; omega
              intro v' w3 ho3 hg3 hnil3
              have HFIN := Lib.hid (HI.out.new HNEW.out (n := 0) (xs := []) ((below_dN HI.out.bel _).alloc HI.out.bel.size _) (by rw [HNIL.out]; rfl) (by rw [HNIL.out]; rfl) ho3 hg3)
              clear ho3 hg3 hnil3
              go_wp2_with fail
              go_roundw
              case rel => exact ⟨j + 1, by omega, by go_num, HFIN.out⟩
              case measure => simp [intOf]; omega
            · have hrow := HI.out.row
              rw [hcs] at hrow hput hlenj
              obtain ⟨M, hM⟩ : ∃ M, g0.length = M := ⟨_, rfl⟩
              have hlM : (g0 ++ [(f, s)]).length = M + 1 := by simp [hM]
              rw [hlM] at hrow hlenj
              obtain ⟨go, capo, hout⟩ := row_shape2 hrow
              have hcapo : M + 1 ≤ capo ∧ capo ≤ maxLen := by
                obtain ⟨_, _, e, h1, h2⟩ := slice_form hrow
                rw [hout] at e
                cases e
                exact ⟨h1, h2⟩
              have hrow2 := hrow
              rw [hout] at hrow2
              have hf1 : wr.cell? ⟨go, M * 2, none⟩ = some (.int .i64 f) := by rw [hrow2.cellAt _ (by omega), flatG_append, List.getElem?_append_right (by rw [flatG_len]; omega), flatG_len, hM]; simp [flatG]
              have hs1 : wr.cell? ⟨go, M * 2 + 1, none⟩ = some (.int .i64 s) := by rw [hrow2.cellAt _ (by omega), flatG_append, List.getElem?_append_right (by rw [flatG_len]; omega), flatG_len, hM, Nat.add_sub_cancel_left]; simp [flatG]
              have hfz : wr.frozen? ⟨go, M * 2 + 1, none⟩ = false := hrow2.frozenAt _
              obtain ⟨hcap1', hcap2'⟩ := hcapo
              have hgo := areaG_ok (a := a) (gs := gs) HGOK.out HA.out.ok j (by have := HA.out.lx; have := HLL.out; omega) (f, s) (by rw [hcs]; simp)
              obtain ⟨hf16, hs0, hfs⟩ := hgo
              have HROW := Lib.hid hrow
              have HCS := Lib.hid hcs
              have HPUT := Lib.hid hput
              have HM := Lib.hid hM
              clear hrow hrow2 hcs hput hM hlM
              subst hout
              unfold maxLen at hcap2'
              dsimp only at hf16 hs0 hfs
              by_cases hjoin : f + s = a.r.fr + (j : Int)
              · have hjb : (f + s == a.r.fr + (j : Int)) = true := by simp [hjoin]
                have HJ := Lib.hid hjoin
                clear hjoin
                have hwr : IntKind.i64.wrap (f + s) = f + s := IntWalk.i64_in _ (by omega)
                go_wp2_with fail
                go_quiet (fail)
                go_wp2_with fail
                go_quiet (fail)
                have HFIN := Lib.hid (fun q => HI.out.join HCS.out (by rw [areaG_put (by rw [HX.out, HY.out]; exact hxy), HCS.out, putG_join _ _ _ _ HJ.out]) (by rw [HM.out]) q)
                rw [HM.out] at HFIN
                go_wp2_with fail
                go_roundw
                case rel => exact ⟨j + 1, by omega, by go_num, HFIN.out _⟩
                case measure => simp [intOf]; omega
              · have hjb : (f + s == a.r.fr + (j : Int)) = false := by simp [hjoin]
                have hnew : areaG a gs (j + 1) = areaG a gs j ++ [(a.r.fr + (j : Int), 1)] := by rw [HPUT.out, putG_new _ _ _ _ hjoin, HCS.out]
                have HNEW := Lib.hid hnew
                have hwr : IntKind.i64.wrap (f + s) = f + s := IntWalk.i64_in _ (by omega)
                clear hjoin hnew
                go_wp2_with fail
                go_quiet (fail)
                go_wp2_with fail
                go_quiet (fail)
                go_wp2_with (at_builtin; refine wpList_append_own _ rfl (.tmp 82) (.tmp 85) 37 rfl w2.heap.size 40 i0 (.agg #[.int .i64 0, .int .i64 0]) 2 16 Try.underlying37 HI0'.out HZ0.out HZ1.out HZ2.out rfl (by decide) (.slice (some ⟨go, 0, none⟩) (M + 1) capo) (M + 1) (flatG (g0 ++ [(f, s)])) rfl ?d0 ⟨wr.heap.size, 0, none⟩ 1 1 [.int .i64 (a.r.fr + (j : Int)), .int .i64 1] rfl rfl ?d1 ?d2 ?d3 ?d4 ?d5 ?_)
                case d0 => exact (ownsRow_dN HROW.out _).alloc _
                case d1 => exact news_gap0 _ _ _ _ rfl
                case d2 => exact gap_one _ _
                case d3 => unfold maxLen; omega
                case d4 => omega
                case d5 => have := HI.out.bel.size; simp; omega
                intro v' w3 ho3 hg3 hnil3
                have HFIN := Lib.hid (HI.out.new HNEW.out (n := M + 1) (xs := flatG (g0 ++ [(f, s)])) ((below_dN HI.out.bel _).alloc HI.out.bel.size _) (by rw [HCS.out]; simp [HM.out]) (by rw [HCS.out]) ho3 hg3)
                clear ho3 hg3 hnil3
                go_wp2_with fail
                go_roundw
                case rel => exact ⟨j + 1, by omega, by go_num, HFIN.out⟩
                case measure => simp [intOf]; omega
        · have hjL : j = L := by omega
          have HO : Hid (ChgO w w2 ms' (k + 1) u4 wr) := by
            refine ⟨?_, HI.out.bel⟩
            have h1 := HI.out.row
            rw [HNEXT.out, HLL.out, ← hjL]
            exact h1
          clear hjL
          go_wp2_with fail
          go_roundw
          case rel => exact ⟨k + 1, by omega, by go_num, HO.out⟩
          case measure => simp [intOf]; omega
    · have hfin : ChgPost ms w (.returned u4) wo := by
        have h1 := HR.out.row
        rw [List.take_of_length_le (by rw [HL.out]; omega)] at h1
        refine ⟨u4, ms', rfl, HP.out, HSO.out, ⟨h1.1, h1.2.imp id fun ⟨g, cap, cur, e, hb, r⟩ => ⟨g, cap, cur, e, by have := HB2.out.size; omega, r⟩⟩, HB2.out.trans (HR.out.bel.mono HB2.out.size)⟩
      have HFIN := Lib.hid hfin
      clear hfin
      go_wp2_with fail
      go_ret
      exact HFIN.out
end Go.Proofs.Ytbffclcjhcbejaa
