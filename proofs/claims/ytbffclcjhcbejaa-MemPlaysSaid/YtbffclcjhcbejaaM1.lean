/- Walks: (*Mem).Mark. Conditions: none. -/
import Derived.Test.YtbffclcjhcbejaaW15
import Derived.Laws.IdiomCopy
namespace Go.Proofs.Ytbffclcjhcbejaa
open Go.RowKit
/-- What is now is what was. -/
def markA (a : Area) : Area := { a with ys := a.xs }
def markK (ms : List Area) (k : Nat) : List Area := (ms.take k).map markA ++ ms.drop k
theorem markK_zero (ms : List Area) : markK ms 0 = ms := by simp [markK]
theorem markK_all (ms : List Area) {k : Nat} (h : ms.length ≤ k) : markK ms k = ms.map markA := by
  unfold markK
  rw [List.take_of_length_le h, List.drop_of_length_le h, List.append_nil]
theorem markK_at {ms : List Area} {k : Nat} {a : Area} (h : ms[k]? = some a) : markK ms k = (ms.take k).map markA ++ a :: ms.drop (k + 1) ∧ markK ms (k + 1) = (ms.take k).map markA ++ markA a :: ms.drop (k + 1) := by
  obtain ⟨hk, rfl⟩ := List.getElem?_eq_some_iff.1 h
  constructor
  · unfold markK; rw [List.drop_eq_getElem_cons hk]
  · unfold markK; rw [List.take_succ_eq_append_getElem hk, List.map_append, List.append_assoc]; rfl
theorem markA_rows {a : Area} (h : a.ys.length = a.xs.length) : (markA a).rows = a.rows := by
  unfold Area.rows markA
  dsimp only
  rw [rowBlk_len (v := a.was) h.symm]
theorem rowsOf_markK {ms : List Area} (h : ∀ a ∈ ms, a.ys.length = a.xs.length) (k : Nat) : rowsOf (markK ms k) = rowsOf ms := by
  have e : ∀ l : List Area, (∀ a ∈ l, a.ys.length = a.xs.length) → rowsOf (l.map markA) = rowsOf l := by
    intro l
    induction l with
    | nil => intro _; rfl
    | cons a r ih =>
      intro hl
      unfold rowsOf at ih ⊢
      rw [List.map_cons, List.flatMap_cons, List.flatMap_cons, markA_rows (hl a (by simp)), ih (fun b hb => hl b (by simp [hb]))]
  unfold markK
  have h1 := e (ms.take k) (fun a ha => h a (List.mem_of_mem_take ha))
  unfold rowsOf at h1 ⊢
  rw [List.flatMap_append, h1, ← List.flatMap_append, List.take_append_drop]
theorem splice_all (xs ys : List Int) (h : ys.length = xs.length) : splice ys 0 xs = xs := by
  unfold splice
  rw [List.take_zero, List.nil_append, Nat.zero_add, ← h, List.drop_length, List.append_nil]
/-- The row of what was, written over. -/
theorem mark_step {w w' : World} {bm gw : Nat} {pre post : List Area} {a : Area} {cur : Array Value} (h : MemAt w bm (pre ++ a :: post)) (hl : a.ys.length = a.xs.length) (hg : gw ∈ rowBlk a.was a.ys) (hb : Blk w gw 5 cur) (k : Keeps (· = gw) w w')
    (hb' : Blk w' gw 5 (splice cur.toList 0 (a.xs.map (Value.int .u8))).toArray) : MemAt w' bm (pre ++ markA a :: post) := by
  have ha := h.each a (by simp)
  obtain ⟨_, hnd⟩ := rows_pair h.apart
  have hgn : gw ∉ rowBlk a.now a.xs := fun hx => by
    unfold Area.rows at hnd
    exact (List.nodup_append.1 hnd).2.2 gw hx gw hg rfl
  have hs := ha.was.spliced (k := 0) hg hb (by omega) hb'
  rw [splice_all _ _ hl] at hs
  exact h.row_put (List.mem_append_right _ hg) k rfl rfl rfl rfl rfl hl.symm (ha.now.keeps k (fun y hy e => hgn (e ▸ hy))) hs ha.bx ha.bx
structure MarkR (w : World) (bm : Nat) (ms : List Area) (k : Nat) (wr : World) : Prop where
  mem : MemAt wr bm (markK ms k)
  keep : Keeps (· ∈ rowsOf ms) w wr
theorem ptr_cells {w : World} {bm : Nat} {ms : List Area} {lv : Value} (hm : MemAt w bm ms) (hlv : Blk w bm 62 #[lv]) (hpos : 0 < ms.length) : ∃ g cap, lv = .slice (some ⟨g, 0, none⟩) ms.length cap ∧ ms.length ≤ cap ∧ cap ≤ maxLen ∧ ∃ cur, Blk w g 63 cur ∧ ∀ k (hk : k < ms.length), cur[k]? = some (ptrV ms[k].b) := by
  obtain ⟨v, hv, ho⟩ := hm.top
  have e : v = lv := by
    have := hv.inj hlv
    simpa using this
  subst e
  rcases ho.2 with ⟨_, h0⟩ | ⟨g, cap, cur, rfl, _, hh, h1, h2, h3, h4⟩
  · omega
  · refine ⟨g, cap, rfl, h1, h2, cur, hh, fun k hk => ?_⟩
    have h5 := congrArg (·[k]?) h4
    simp only [List.getElem?_take, List.getElem?_map] at h5
    rw [if_pos (by omega), List.getElem?_eq_getElem hk] at h5
    simpa using h5
set_option maxRecDepth 100000 in
set_option maxHeartbeats 2000000 in
theorem mark_any (bm : Nat) (ms : List Area) (w : World) (hm : MemAt w bm ms) :
    Calls Try.prog 9 #[.pointer (some ⟨bm, 0, none⟩)] w fun e w' => e = .returned (.tuple #[]) ∧ MemAt w' bm (ms.map markA) ∧ Keeps (· ∈ rowsOf ms) w w' ∧ rowsOf (ms.map markA) = rowsOf ms := by
  have hll : ∀ a ∈ ms, a.ys.length = a.xs.length := fun a ha => by have := (hm.each a ha).lx; have := (hm.each a ha).ly; omega
  have hrows := rowsOf_markK hll ms.length
  rw [markK_all ms (Nat.le_refl _)] at hrows
  obtain ⟨lv, hlv, hown⟩ := hm.top
  have hc0 : w.cell? ⟨bm, 0, none⟩ = some lv := by rw [hlv.cell]; rfl
  have hfew := hm.few
  obtain ⟨A, cap, hlf, hcap, hmax⟩ := slice_form hown
  have HS : Hid (MarkR w bm ms 0 w) := ⟨by rw [markK_zero]; exact hm, Keeps.refl _ _⟩
  have HM := Lib.hid hm
  have HLV := Lib.hid hlv
  have HLL := Lib.hid hll
  have HROWS := Lib.hid hrows
  obtain ⟨N, hN⟩ : ∃ N, ms.length = N := ⟨_, rfl⟩
  rw [hN] at hfew hcap hlf
  have HN := Lib.hid hN
  have HPC := Lib.hid (ptr_cells hm hlv)
  subst hlf
  clear hm hlv hll hown hN hrows
  unfold maxLen at hmax
  go_enter Try.func9, Try.ntmps9
  go_wp2_with fail
  go_loopw [9] (fun i wr => ∃ k : Nat, k ≤ N ∧ i = .int .i64 k ∧ Hid (MarkR w bm ms k wr)) (fun i _ => N - (intOf i).toNat)
  case atStart => exact ⟨0, Nat.zero_le _, rfl, HS.out⟩
  case round =>
    obtain ⟨k, hk, rfl, HR⟩ := hrel
    by_cases hlt : k < N
    · have hkl : k < ms.length := by rw [HN.out]; exact hlt
      obtain ⟨g, cap', he, _, _, cur, hbg, hcur⟩ := HPC.out (by omega)
      rw [HN.out] at he
      cases he
      have hgT : ¬ g ∈ rowsOf ms := fun hg => by
        obtain ⟨c2, hc2⟩ := HM.out.row_blk hg
        exact Blk.ne_ hbg hc2 (by decide) rfl
      have hbg2 : Blk wr g 63 cur := hbg.keeps HR.out.keep hgT
      have hc1 : wr.cell? ⟨g, k, none⟩ = some (ptrV ms[k].b) := by rw [hbg2.cell]; exact hcur k hkl
      have hka : ms[k]? = some ms[k] := List.getElem?_eq_getElem hkl
      have hlla := HLL.out ms[k] (List.getElem_mem hkl)
      obtain ⟨a, hak⟩ : ∃ a, ms[k] = a := ⟨_, rfl⟩
      rw [hak] at hc1 hka hlla
      unfold ptrV at hc1
      obtain ⟨hm1, hm2⟩ := markK_at hka
      have hmr := HR.out.mem
      rw [hm1] at hmr
      have ha := hmr.each a (by simp)
      obtain ⟨An, cn, hnow, hcn, hmn, _⟩ := ha.now
      obtain ⟨Aw, cw, hwas, hcw, hmw, _⟩ := ha.was
      have c5 : wr.cell? ⟨a.b, 5, none⟩ = some a.now := by rw [ha.blk.cell]; rfl
      have c6 : wr.cell? ⟨a.b, 6, none⟩ = some a.was := by rw [ha.blk.cell]; rfl
      rw [hlla] at hwas
      rw [hnow] at c5
      rw [hwas] at c6
      have hab : a.b < wr.heap.size := ha.blk.lt
      by_cases hz : a.xs.length = 0
      · have hxn : a.xs = [] := List.length_eq_zero_iff.1 hz
        have hyn : a.ys = [] := List.length_eq_zero_iff.1 (by omega)
        have hsame : markA a = a := by
          unfold markA
          obtain ⟨r, b, now, was, xs, ys⟩ := a
          dsimp only at hxn hyn ⊢
          rw [hxn, hyn]
        have HNX : Hid (∀ W, W.heap = wr.heap → W.os = wr.os → W.tape = wr.tape → W.output = wr.output → MarkR w bm ms (k + 1) W) := fun W h1 h2 h3 h4 =>
          have hk0 : Keeps (fun _ => False) wr W := ⟨h2, h3, h4, by rw [h1]; exact Nat.le_refl _, fun i _ _ => by rw [h1]⟩
          ⟨by rw [hm2, hsame]; exact hmr.keeps hk0 (fun _ _ _ e => e.elim) (fun _ _ e => e), HR.out.keep.trans hk0 (fun _ _ e => e.elim)⟩
        rw [hz] at c5 c6
        have hcp := fun W => run_copy_none (P := Try.prog) W 33 33 3 5 Aw An 0 cw 0 cn Try.underlying33 info5 rfl
        clear ha hmr hm1 hm2 hka hak hlla hnow hwas hz hxn hyn hsame hbg hbg2 hcur hgT
        go_wp2_with fail
        go_region_held3 (fun w' => w'.cell? ⟨a.b, 5, none⟩ = some (.slice An 0 cn) ∧ w'.cell? ⟨a.b, 6, none⟩ = some (.slice Aw 0 cw)) (first | go_keep) (first | (fail))
        go_wp2_with fail
        go_roundw
        case rel => exact ⟨k + 1, by omega, by go_num, HNX.out _ rfl rfl rfl rfl⟩
        case measure => simp [intOf]; omega
      · obtain ⟨gn, cn', curn, hnow2, _, _, hbn, hsn, htn⟩ := ha.now.open_ (by omega)
        obtain ⟨gw, cw', curw, hwas2, _, _, hbw, hsw, htw⟩ := ha.was.open_ (by omega)
        rw [hnow] at hnow2
        rw [hlla] at hwas2
        rw [hwas] at hwas2
        cases hnow2
        cases hwas2
        have hgw : gw ∈ rowBlk a.was a.ys := by
          unfold rowBlk
          rw [if_neg (by intro h; rw [h] at hlla; simp at hlla; omega), hwas]
          simp [Value.ownBlock]
        obtain ⟨w2, hcp, hb2, hk2⟩ := copy_run (P := Try.prog) wr.drew 33 33 3 5 gw 0 a.xs.length cw ⟨gn, 0, none⟩ a.xs.length cn curw 5 (a.xs.map (Value.int .u8)) Try.underlying33 info5
          hbw.drew (by simp) (fun j u hj => by
            have h1 := cut_cells (k := 0) (n := a.xs.length) hbn htn (by omega) j u (by simpa [cut] using hj)
            exact h1) (by simp; omega) (oneCell_bytes _)
        rw [List.length_map] at hcp
        have hgr : gw ∈ rowsOf ms := by
          rw [← rowsOf_markK HLL.out k, hm1]
          exact List.mem_flatMap.2 ⟨a, by simp, List.mem_append_right _ hgw⟩
        have hfin : MarkR w bm ms (k + 1) w2 := by
          have hk3 : Keeps (· = gw) wr w2 := ((Keeps.refl (fun i => i = gw) wr).drew).trans hk2 (fun _ _ e => e)
          refine ⟨?_, HR.out.keep.trans hk3 (fun i _ e => by rw [e]; exact hgr)⟩
          rw [hm2]
          exact mark_step hmr hlla hgw hbw hk3 hb2
        have HFIN := Lib.hid hfin
        have hneb : a.b ≠ gw := ha.blk.ne_ hbw (by decide)
        have c5w : w2.cell? ⟨a.b, 5, none⟩ = some (.slice (some ⟨gn, 0, none⟩) a.xs.length cn) := by
          rw [hk2.cell (p := ⟨a.b, 5, none⟩) hab hneb]; exact c5
        have c6w : w2.cell? ⟨a.b, 6, none⟩ = some (.slice (some ⟨gw, 0, none⟩) a.xs.length cw) := by
          rw [hk2.cell (p := ⟨a.b, 6, none⟩) hab hneb]; exact c6
        generalize hL : a.xs.length = L at *
        clear ha hmr hm1 hm2 hka hak hlla hnow hwas hz hbg hbg2 hcur hgT hbn htn hsn hbw htw hsw hgw hb2 hk2 hgr hfin hneb hL
        go_wp2_with fail
        go_region_held3 (fun w' => w'.cell? ⟨a.b, 5, none⟩ = some (.slice (some ⟨gn, 0, none⟩) L cn) ∧ w'.cell? ⟨a.b, 6, none⟩ = some (.slice (some ⟨gw, 0, none⟩) L cw)) (first | go_keep) (first | (fail))
        go_wp2_with fail
        go_roundw
        case rel => exact ⟨k + 1, by omega, by go_num, HFIN.out⟩
        case measure => simp [intOf]; omega
    · have hfin : MemAt wr bm (ms.map markA) := by
        have := HR.out.mem
        rwa [markK_all ms (by rw [HN.out]; omega)] at this
      have HFIN := Lib.hid hfin
      clear hfin
      go_wp2_with fail
      go_end0
      exact ⟨rfl, HFIN.out, HR.out.keep, HROWS.out⟩
end Go.Proofs.Ytbffclcjhcbejaa
