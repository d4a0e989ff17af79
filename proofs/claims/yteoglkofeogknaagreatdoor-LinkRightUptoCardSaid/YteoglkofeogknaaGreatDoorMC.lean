/- Walks: mem.name, span.meets, mem.Check. Conditions: names within the model's lengths. -/
import Derived.Test.YteoglkofeogknaaGreatDoorKZ
import Derived.Lib.Bytes
import Derived.BigQuiet
import Derived.Deep.QuietTactic
set_option linter.unusedVariables false
set_option linter.unusedSimpArgs false
namespace Go.Proofs.YteoglkofeogknaaGreatDoor
open Go.RowKit
/-- A range, as data. -/
structure Rng where
  nm : ByteArray
  fr : Int
  sz : Int
  wr : Bool
  ex : Bool
def Rng.cells (r : Rng) : List Value := [.string r.nm, .int .i64 r.fr, .int .i64 r.sz, .bool r.wr, .bool r.ex]
/-- What Check grants of one range (but its name). -/
structure Rng.Ok (r : Rng) : Prop where
  f0 : 16 ≤ r.fr
  f1 : r.fr ≤ 4294967296
  s0 : 0 ≤ r.sz
  s1 : r.sz ≤ 16777216
  fs : r.fr + r.sz ≤ 4294967296
def nameC (c : Nat) : Bool := (decide (97 ≤ c) && decide (c ≤ 122)) || (decide (48 ≤ c) && decide (c ≤ 57)) || c == 95
/-- Is a text a range's name? -/
def nameB (s : ByteArray) : Bool :=
  if h : 0 < s.size then decide (s.size ≤ 31) && decide (97 ≤ (s[0]'h).toNat) && decide ((s[0]'h).toNat ≤ 122) && s.data.toList.all (fun c => nameC c.toNat) else false
theorem takeB_snoc (s : ByteArray) (k : Nat) (h : k < s.size) : s.data.toList.take (k + 1) = s.data.toList.take k ++ [s[k]] := by
  rw [List.take_succ_eq_append_getElem (by simpa using h)]; rfl
theorem allC_step (s : ByteArray) (p : UInt8 → Bool) (k : Nat) (h : k < s.size) (h1 : (s.data.toList.take k).all p = true) (h2 : p s[k] = true) : (s.data.toList.take (k + 1)).all p = true := by
  rw [takeB_snoc s k h, List.all_append, h1]; simp [h2]
theorem allC_stop (s : ByteArray) (p : UInt8 → Bool) (k : Nat) (h : k < s.size) (h2 : p s[k] = false) : s.data.toList.all p = false := by
  rw [List.all_eq_false]
  exact ⟨s[k], by simp only [Array.mem_toList_iff]; exact Array.getElem_mem _, by simp [h2]⟩
theorem isEmpty_of (s : ByteArray) (h : 0 < s.size) : s.toList.isEmpty = false := by
  cases hl : s.toList with
  | nil =>
    have h2 : s.data.toList = [] := by rw [← hl, Lib.toList_data]
    have h4 := congrArg List.length h2
    rw [Array.length_toList] at h4
    exact absurd (show s.size = 0 from h4) (by omega)
  | cons _ _ => rfl
theorem isEmpty_nil (s : ByteArray) (h : ¬ 0 < s.size) : s.toList.isEmpty = true := by
  have h2 : s.data.toList = [] := by
    apply List.length_eq_zero_iff.1
    rw [Array.length_toList]
    exact (show s.size = 0 by omega)
  rw [Lib.toList_data, h2]; rfl
theorem nameC_true {c : Nat} (h : (97 ≤ c ∧ c ≤ 122) ∨ (48 ≤ c ∧ c ≤ 57) ∨ c = 95) : nameC c = true := by
  unfold nameC; simp; omega
theorem nameC_false {c : Nat} (h : ¬ ((97 ≤ c ∧ c ≤ 122) ∨ (48 ≤ c ∧ c ≤ 57) ∨ c = 95)) : nameC c = false := by
  unfold nameC; simp; omega
set_option maxRecDepth 100000 in
set_option maxHeartbeats 2000000 in
theorem mname_any (s : ByteArray) (w : World) (hs : s.size ≤ maxLen) :
    Calls Tryz.prog 43 #[.string s] w fun e w' => e = .returned (.bool (nameB s)) ∧ w = w' := by
  unfold maxLen at hs
  by_cases h0 : 0 < s.size
  · have e0 := isEmpty_of s h0
    by_cases h1 : s.size ≤ 31
    · by_cases h2 : 97 ≤ (s[0]'h0).toNat
      · by_cases h3 : (s[0]'h0).toNat ≤ 122
        · have hfin : nameB s = s.data.toList.all (fun c => nameC c.toNat) := by simp [nameB, h0, h1, h2, h3]
          have HFIN := Lib.hid hfin
          clear hfin
          go_enter Tryz.func43, Tryz.ntmps43
          go_wp2
          go_loop [24] (fun i => ∃ k : Nat, k ≤ s.size ∧ i = .int .i64 k ∧ Hid ((s.data.toList.take k).all (fun c => nameC c.toNat) = true)) (fun i => s.size - (intOf i).toNat)
          case atStart => exact ⟨0, Nat.zero_le _, rfl, rfl⟩
          case round =>
            obtain ⟨k, hk, rfl, HA⟩ := hrel
            by_cases hlt : k < s.size
            · obtain ⟨c, hc⟩ : ∃ c : Nat, (s[k]'hlt).toNat = c := ⟨_, rfl⟩
              have HT := Lib.hid (fun h => allC_step s (fun c => nameC c.toNat) k hlt HA.out (by rw [hc]; exact nameC_true (c := c) h))
              have HF := Lib.hid (fun h => allC_stop s (fun c => nameC c.toNat) k hlt (by rw [hc]; exact nameC_false (c := c) h))
              clear h2 h3
              rcases (show ((97 ≤ c ∧ c ≤ 122) ∨ (48 ≤ c ∧ c ≤ 57) ∨ c = 95) ∨ (c < 48 ∨ (58 ≤ c ∧ c ≤ 94) ∨ c = 96 ∨ 123 ≤ c) by omega) with hcs | hcs
              · have HT2 := Lib.hid (HT.out hcs)
                rcases hcs with ⟨d1, d2⟩ | ⟨d1, d2⟩ | rfl
                all_goals
                  go_wp2
                  go_round
                  case rel => exact ⟨k + 1, by omega, by go_num, HT2.out⟩
                  case measure => simp [intOf]; omega
              · have HF2 := Lib.hid (HF.out (by omega))
                have q95 : ((c : Int) == 95) = false := by simp; omega
                rcases hcs with d1 | ⟨d1, d2⟩ | rfl | d1
                · go_wp2
                  go_ret
                  exact ⟨by rw [HFIN.out, HF2.out]; rfl, rfl⟩
                · have q57 : decide ((c : Int) ≤ 57) = false := by simp; omega
                  go_wp2
                  go_ret
                  exact ⟨by rw [HFIN.out, HF2.out]; rfl, rfl⟩
                · go_wp2
                  go_ret
                  exact ⟨by rw [HFIN.out, HF2.out]; rfl, rfl⟩
                · have q57 : decide ((c : Int) ≤ 57) = false := by simp; omega
                  have q122 : decide ((c : Int) ≤ 122) = false := by simp; omega
                  go_wp2
                  go_ret
                  exact ⟨by rw [HFIN.out, HF2.out]; rfl, rfl⟩
            · have hsk : s.data.toList.take k = s.data.toList := List.take_of_length_le (by have h3 : s.size = s.data.size := rfl; simp; omega)
              have hfin : nameB s = true := by rw [HFIN.out, ← hsk]; exact HA.out
              have HN := Lib.hid hfin
              clear hfin hsk
              go_wp2
              go_ret
              exact ⟨by rw [HN.out]; rfl, rfl⟩
        · have hfin : nameB s = false := by simp [nameB, h0, h1, h2, h3]
          have HFIN := Lib.hid hfin
          clear hfin
          go_enter Tryz.func43, Tryz.ntmps43
          go_wp2
          go_ret
          exact ⟨by rw [HFIN.out]; rfl, rfl⟩
      · have hfin : nameB s = false := by simp [nameB, h0, h1, h2]
        have HFIN := Lib.hid hfin
        clear hfin
        go_enter Tryz.func43, Tryz.ntmps43
        go_wp2
        go_ret
        exact ⟨by rw [HFIN.out]; rfl, rfl⟩
    · have hfin : nameB s = false := by simp [nameB, h0, h1]
      have HFIN := Lib.hid hfin
      clear hfin
      go_enter Tryz.func43, Tryz.ntmps43
      go_wp2
      go_ret
      exact ⟨by rw [HFIN.out]; rfl, rfl⟩
  · have e0 := isEmpty_nil s h0
    have hfin : nameB s = false := by simp [nameB, h0]
    have HFIN := Lib.hid hfin
    clear hfin
    go_enter Tryz.func43, Tryz.ntmps43
    go_wp2
    go_ret
    exact ⟨by rw [HFIN.out]; rfl, rfl⟩
def meetsB (r o : Rng) : Bool := decide (0 < r.sz) && decide (0 < o.sz) && decide (r.fr < o.fr + o.sz) && decide (o.fr < r.fr + r.sz)
set_option maxRecDepth 100000 in
set_option maxHeartbeats 400000 in
theorem meets_any (r o : Rng) (w : World) (hr : r.Ok) (ho : o.Ok) :
    Calls Tryz.prog 45 #[.agg #[.string r.nm, .int .i64 r.fr, .int .i64 r.sz, .bool r.wr, .bool r.ex], .agg #[.string o.nm, .int .i64 o.fr, .int .i64 o.sz, .bool o.wr, .bool o.ex]] w
      fun e w' => e = .returned (.bool (meetsB r o)) ∧ Below w.heap.size w w' := by
  obtain ⟨f0, f1, s0, s1, _⟩ := hr
  obtain ⟨g0, g1, t0, t1, _⟩ := ho
  have hb := fun o1 o2 => ((Below.refl w.heap.size w).alloc (Nat.le_refl _) o1).alloc (by simp) o2
  have HB := Lib.hid hb
  clear hb
  by_cases c1 : 0 < r.sz
  · by_cases c2 : 0 < o.sz
    · by_cases c3 : r.fr < o.fr + o.sz
      all_goals
        go_enter Tryz.func45, Tryz.ntmps45
        go_wp2
        go_ret
        exact ⟨ret_bool (by simp [meetsB]; omega), HB.out _ _⟩
    · go_enter Tryz.func45, Tryz.ntmps45
      go_wp2
      go_ret
      exact ⟨ret_bool (by simp [meetsB]; omega), HB.out _ _⟩
  · go_enter Tryz.func45, Tryz.ntmps45
    go_wp2
    go_ret
    exact ⟨ret_bool (by simp [meetsB]; omega), HB.out _ _⟩
/-- Do two ranges clash, by name or by an address? -/
def clash (r o : Rng) : Bool := (o.nm.toList == r.nm.toList) || meetsB r o
def rngArr (r : Rng) : Array Value := #[.string r.nm, .int .i64 r.fr, .int .i64 r.sz, .bool r.wr, .bool r.ex]
set_option maxRecDepth 100000 in
set_option maxHeartbeats 400000 in
theorem closure_any (br : Nat) (r o : Rng) (w : World) (hb : Blk w br 48 (rngArr r)) (hr : r.Ok) (ho : o.Ok) :
    Calls Tryz.prog 44 #[.agg #[.string o.nm, .int .i64 o.fr, .int .i64 o.sz, .bool o.wr, .bool o.ex], .pointer (some ⟨br, 0, none⟩)] w
      fun e w' => e = .returned (.bool (clash r o)) ∧ Below w.heap.size w w' := by
  have c0 : w.cell? ⟨br, 0, none⟩ = some (.string r.nm) := by rw [hb.cell]; rfl
  have c1 : w.cell? ⟨br, 1, none⟩ = some (.int .i64 r.fr) := by rw [hb.cell]; rfl
  have c2 : w.cell? ⟨br, 2, none⟩ = some (.int .i64 r.sz) := by rw [hb.cell]; rfl
  have c3 : w.cell? ⟨br, 3, none⟩ = some (.bool r.wr) := by rw [hb.cell]; rfl
  have c4 : w.cell? ⟨br, 4, none⟩ = some (.bool r.ex) := by rw [hb.cell]; rfl
  have hlt := hb.lt
  clear hb
  have hB := fun o1 => (Below.refl w.heap.size w).alloc (Nat.le_refl _) o1
  have HB := Lib.hid hB
  clear hB
  have HR := Lib.hid hr
  have HO := Lib.hid ho
  clear hr ho
  cases hn : (o.nm.toList == r.nm.toList) with
  | true =>
    have hc : clash r o = true := by simp only [clash, hn, Bool.true_or]
    have HC := Lib.hid hc
    clear hc
    go_enter Tryz.func44, Tryz.ntmps44
    go_wp2_with fail
    go_ret
    exact ⟨by rw [HC.out]; rfl, HB.out _⟩
  | false =>
    have hc : clash r o = meetsB r o := by simp only [clash, hn, Bool.false_or]
    have HC := Lib.hid hc
    clear hc
    go_enter Tryz.func44, Tryz.ntmps44
    go_wp2_with fail
    refine (meets_any r o _ HR.out HO.out).mono ?_
    rintro e w1 ⟨rfl, hb1⟩
    have HB1 := Lib.hid ((HB.out _).trans (hb1.mono (by simp)))
    clear hb1
    go_wp2
    go_ret
    exact ⟨by rw [HC.out]; rfl, HB1.out⟩
/-- Cells of ranges, one behind the other. -/
def RCells (w : World) (g off : Nat) (rs : List Rng) : Prop :=
  ∀ i (h : i < rs.length) (j : Nat) (u : Value), (rngArr rs[i])[j]? = some u → w.cell? ⟨g, off + i * 5 + j, none⟩ = some u
/-- A slice value reads as ranges. -/
def RRow (w : World) (v : Value) (rs : List Rng) : Prop :=
  ∃ A cap, v = .slice A rs.length cap ∧ rs.length ≤ cap ∧ cap ≤ maxLen ∧ (rs ≠ [] → ∃ g off, A = some ⟨g, off, none⟩ ∧ g < w.heap.size ∧ RCells w g off rs)
theorem RCells.below {w w' : World} {g off : Nat} {rs : List Rng} (h : RCells w g off rs) (hb : Below w.heap.size w w') (hg : g < w.heap.size) : RCells w' g off rs :=
  fun i hi j u hu => (hb.cell (p := ⟨g, off + i * 5 + j, none⟩) hg).trans (h i hi j u hu)
theorem RRow.below {w w' : World} {v : Value} {rs : List Rng} (h : RRow w v rs) (hb : Below w.heap.size w w') : RRow w' v rs := by
  obtain ⟨A, cap, rfl, h1, h2, h3⟩ := h
  refine ⟨A, cap, rfl, h1, h2, fun hne => ?_⟩
  obtain ⟨g, off, rfl, hg, hc⟩ := h3 hne
  exact ⟨g, off, rfl, Nat.lt_of_lt_of_le hg hb.size, hc.below hb hg⟩
theorem RCells.five {w : World} {g off : Nat} {rs : List Rng} (h : RCells w g off rs) {i : Nat} (hi : i < rs.length) :
    w.cell? ⟨g, off + i * 5, none⟩ = some (.string rs[i].nm) ∧ w.cell? ⟨g, off + i * 5 + 1, none⟩ = some (.int .i64 rs[i].fr) ∧ w.cell? ⟨g, off + i * 5 + 2, none⟩ = some (.int .i64 rs[i].sz) ∧
      w.cell? ⟨g, off + i * 5 + 3, none⟩ = some (.bool rs[i].wr) ∧ w.cell? ⟨g, off + i * 5 + 4, none⟩ = some (.bool rs[i].ex) :=
  ⟨h i hi 0 _ rfl, h i hi 1 _ rfl, h i hi 2 _ rfl, h i hi 3 _ rfl, h i hi 4 _ rfl⟩
theorem anyR_step {rs : List Rng} {p : Rng → Bool} {k : Nat} (hk : k < rs.length) (h : (rs.take k).any p = false) (h2 : p rs[k] = false) : (rs.take (k + 1)).any p = false := by
  rw [List.take_succ_eq_append_getElem hk, List.any_append, h]; simp [h2]
theorem anyR_hit {rs : List Rng} {p : Rng → Bool} {k n : Nat} (hk : k < rs.length) (hkn : k < n) (h2 : p rs[k] = true) : (rs.take n).any p = true := by
  rw [List.any_eq_true]
  exact ⟨rs[k], List.mem_take_iff_getElem.2 ⟨k, by omega, rfl⟩, h2⟩
set_option maxRecDepth 100000 in
set_option maxHeartbeats 1000000 in
theorem index_any (g off n cap br : Nat) (r : Rng) (rs : List Rng) (w : World) (hn : n ≤ rs.length) (hn2 : n ≤ cap) (hcap : cap ≤ maxLen) (hg : g < w.heap.size) (hc : RCells w g off rs) (hb : Blk w br 48 (rngArr r)) (hr : r.Ok) (ho : ∀ o ∈ rs.take n, o.Ok) (hl : rs.length ≤ 16) :
    Calls Tryz.prog 46 #[.slice (some ⟨g, off, none⟩) n cap, .func (.func 44) #[] #[.pointer (some ⟨br, 0, none⟩)]] w
      fun e w' => ∃ i : Int, e = .returned (.int .i64 i) ∧ decide (0 ≤ i) = (rs.take n).any (clash r) ∧ Below w.heap.size w w' := by
  unfold maxLen at hcap
  have HC := Lib.hid hc
  have HB := Lib.hid hb
  have HR := Lib.hid hr
  have HO := Lib.hid ho
  clear hc hb hr ho
  go_enter Tryz.func46, Tryz.ntmps46
  go_wp2
  go_loopw [8] (fun i wr => ∃ k : Nat, k ≤ n ∧ i = .int .i64 k ∧ Hid ((rs.take k).any (clash r) = false) ∧ Below w.heap.size w wr) (fun i _ => n - (intOf i).toNat)
  case atStart => exact ⟨0, Nat.zero_le _, rfl, rfl, Below.refl _ _⟩
  case round =>
    obtain ⟨k, hk, rfl, HF, hbel⟩ := hrel
    have HBel := Lib.hid hbel
    clear hbel
    by_cases hlt : k < n
    · have hkl : k < rs.length := by omega
      obtain ⟨c0, c1, c2, c3, c4⟩ := (HC.out.below HBel.out hg).five hkl
      have hbr := HB.out.below HBel.out HB.out.lt
      have hok : (rs[k]).Ok := HO.out _ (List.mem_take_iff_getElem.2 ⟨k, by omega, rfl⟩)
      have HBR := Lib.hid hbr
      have HOK := Lib.hid hok
      clear hbr hok
      go_wp2_with fail
      refine (closure_any br r rs[k] _ HBR.out HR.out HOK.out).mono ?_
      rintro e w1 ⟨rfl, hb1⟩
      have HB1 := Lib.hid (HBel.out.trans (hb1.mono HBel.out.size))
      clear hb1 c0 c1 c2 c3 c4
      cases hcl : clash r rs[k] with
      | true =>
        have HT := Lib.hid (anyR_hit (n := n) hkl hlt hcl)
        clear hcl
        go_wp2
        go_ret
        exact ⟨k, rfl, by rw [HT.out]; simp, HB1.out⟩
      | false =>
        have HT := Lib.hid (anyR_step hkl HF.out hcl)
        clear hcl
        go_wp2
        go_roundw
        case rel => exact ⟨k + 1, by omega, by go_num, HT.out, HB1.out⟩
        case measure => simp [intOf]; omega
    · have hkn : k = n := by omega
      have HKN := Lib.hid hkn
      clear hkn
      go_wp2
      go_ret
      exact ⟨-1, rfl, by rw [← HKN.out, HF.out]; rfl, HBel.out⟩
set_option maxRecDepth 100000 in
set_option maxHeartbeats 400000 in
theorem contains_any (g off n cap br : Nat) (r : Rng) (rs : List Rng) (w : World) (hn : n ≤ rs.length) (hn2 : n ≤ cap) (hcap : cap ≤ maxLen) (hg : g < w.heap.size) (hc : RCells w g off rs) (hb : Blk w br 48 (rngArr r)) (hr : r.Ok) (ho : ∀ o ∈ rs.take n, o.Ok) (hl : rs.length ≤ 16) :
    Calls Tryz.prog 24 #[.slice (some ⟨g, off, none⟩) n cap, .func (.func 44) #[] #[.pointer (some ⟨br, 0, none⟩)]] w
      fun e w' => e = .returned (.bool ((rs.take n).any (clash r))) ∧ Below w.heap.size w w' := by
  have HI := Lib.hid (index_any g off n cap br r rs w hn hn2 hcap hg hc hb hr ho hl)
  clear hc hb hr ho
  go_enter Tryz.func24, Tryz.ntmps24
  go_wp2_with fail
  refine HI.out.mono ?_
  rintro e w1 ⟨i, rfl, hd, hb1⟩
  have HD := Lib.hid hd
  have HB1 := Lib.hid hb1
  clear hd hb1
  go_wp2
  go_ret
  exact ⟨by rw [← HD.out]; rfl, HB1.out⟩
/-- Is one range right by itself? -/
def rngB (r : Rng) : Bool :=
  nameB r.nm && decide (16 ≤ r.fr) && decide (r.fr ≤ 4294967296) && decide (0 ≤ r.sz) && decide (r.sz ≤ 16777216) && decide (r.fr % 16 = 0) && decide (r.sz % 16 = 0) && decide (r.fr + r.sz ≤ 4294967296)
def okAt (rs : List Rng) (k : Nat) : Bool :=
  match rs[k]? with
  | some r => rngB r && !((rs.take k).any (clash r))
  | none => true
def chkAll (rs : List Rng) : Bool := (List.range rs.length).all (okAt rs)
/-- What Check comes to. -/
def chkR (rs : List Rng) : Int := if 16 < rs.length then 3 else if chkAll rs then 0 else 5
theorem rngB_ok {r : Rng} (h : rngB r = true) : r.Ok := by
  simp [rngB] at h
  obtain ⟨⟨⟨⟨⟨⟨⟨_, h1⟩, h2⟩, h3⟩, h4⟩, _⟩, _⟩, h5⟩ := h
  exact ⟨h1, h2, h3, h4, h5⟩
theorem okAt_lt {rs : List Rng} {k : Nat} (hk : k < rs.length) : okAt rs k = (rngB rs[k] && !((rs.take k).any (clash rs[k]))) := by
  simp [okAt, List.getElem?_eq_getElem hk]
theorem mchk_bad {rs : List Rng} {k : Nat} (hl : rs.length ≤ 16) (hk : k < rs.length) (h : okAt rs k = false) : chkR rs = 5 := by
  unfold chkR
  rw [if_neg (by omega)]
  have : chkAll rs = false := by
    unfold chkAll
    rw [List.all_eq_false]
    exact ⟨k, List.mem_range.2 hk, by simp [h]⟩
  simp [this]
theorem mchk_good {rs : List Rng} (hl : rs.length ≤ 16) (h : ∀ j, j < rs.length → okAt rs j = true) : chkR rs = 0 := by
  unfold chkR
  rw [if_neg (by omega)]
  have : chkAll rs = true := by
    unfold chkAll
    rw [List.all_eq_true]
    exact fun j hj => h j (List.mem_range.1 hj)
  simp [this]
theorem oks_of {rs : List Rng} {k : Nat} (h : ∀ j, j < k → okAt rs j = true) (hk : k ≤ rs.length) : ∀ o ∈ rs.take k, o.Ok := by
  intro o ho
  obtain ⟨j, hj, rfl⟩ := List.mem_take_iff_getElem.1 ho
  have h1 := h j (by omega)
  rw [okAt_lt (by omega)] at h1
  simp at h1
  exact rngB_ok h1.1
/-- How a range fails, test by test. -/
theorem rng_cases (r : Rng) : (rngB r = true) ∨ (rngB r = false ∧ (nameB r.nm = false ∨ nameB r.nm = true ∧ (r.fr < 16 ∨ 16 ≤ r.fr ∧ (4294967296 < r.fr ∨ r.fr ≤ 4294967296 ∧ (r.sz < 0 ∨ 0 ≤ r.sz ∧ (16777216 < r.sz ∨ r.sz ≤ 16777216 ∧
    ((r.fr % 16 != 0) = true ∨ (r.fr % 16 != 0) = false ∧ ((r.sz % 16 != 0) = true ∨ (r.sz % 16 != 0) = false ∧ 4294967296 < r.fr + r.sz)))))))) := by
  cases h : rngB r with
  | true => exact Or.inl rfl
  | false =>
    refine Or.inr ⟨rfl, ?_⟩
    cases hn : nameB r.nm with
    | false => exact Or.inl rfl
    | true =>
      refine Or.inr ⟨rfl, ?_⟩
      simp [rngB, hn] at h
      simp only [bne_iff_ne, ne_eq, bne_eq_false_iff_eq]
      omega
set_option maxRecDepth 100000 in
set_option maxHeartbeats 4000000 in
theorem mcheck_some (g off cap : Nat) (rs : List Rng) (w : World) (hlen : rs.length ≤ 16) (hn2 : rs.length ≤ cap) (hcap : cap ≤ maxLen) (hg : g < w.heap.size) (hc : RCells w g off rs) (hnm : ∀ r ∈ rs, r.nm.size ≤ maxLen) :
    Calls Tryz.prog 22 #[.slice (some ⟨g, off, none⟩) rs.length cap] w fun e w' => e = .returned (.int .i64 (chkR rs)) ∧ Below w.heap.size w w' := by
  have HC := Lib.hid hc
  have HNM := Lib.hid hnm
  have hcap' := hcap
  unfold maxLen at hcap'
  have HCAP := Lib.hid hcap
  have HLEN := Lib.hid hlen
  clear hc hnm hcap
  obtain ⟨N, hN⟩ : ∃ N, rs.length = N := ⟨_, rfl⟩
  rw [hN] at hlen hn2 ⊢
  have HN := Lib.hid hN
  clear hN
  go_enter Tryz.func22, Tryz.ntmps22
  go_wp2
  go_loopw [10] (fun i wr => ∃ k : Nat, k ≤ N ∧ i = .int .i64 k ∧ Hid (∀ j, j < k → okAt rs j = true) ∧ Below w.heap.size w wr) (fun i _ => N - (intOf i).toNat)
  case atStart => exact ⟨0, Nat.zero_le _, rfl, fun j hj => absurd hj (by omega), Below.refl _ _⟩
  case round =>
    obtain ⟨k, hk, rfl, HF, hbel⟩ := hrel
    have HBel := Lib.hid hbel
    clear hbel
    by_cases hlt : k < N
    · have hkl : k < rs.length := by rw [HN.out]; exact hlt
      obtain ⟨c0, c1, c2, c3, c4⟩ := (HC.out.below HBel.out hg).five hkl
      have hbad : rngB rs[k] = false → chkR rs = 5 := fun h => mchk_bad HLEN.out hkl (by rw [okAt_lt hkl, h]; rfl)
      have hbad2 : (rs.take k).any (clash rs[k]) = true → chkR rs = 5 := fun h => mchk_bad HLEN.out hkl (by rw [okAt_lt hkl, h]; simp)
      have hgood : rngB rs[k] = true → (rs.take k).any (clash rs[k]) = false → ∀ j, j < k + 1 → okAt rs j = true := fun h1 h2 j hj => by
        rcases Nat.lt_or_ge j k with h | h
        · exact HF.out j h
        · obtain rfl : j = k := by omega
          rw [okAt_lt hkl, h1, h2]; rfl
      have hnmk : (rs[k]).nm.size ≤ maxLen := HNM.out _ (List.getElem_mem hkl)
      have hcon : ∀ (W : World) (br : Nat), Blk W br 48 (rngArr rs[k]) → (rs[k]).Ok → Below w.heap.size w W → Calls Tryz.prog 24 #[.slice (some ⟨g, off, none⟩) k cap, .func (.func 44) #[] #[.pointer (some ⟨br, 0, none⟩)]] W
          fun e w' => e = .returned (.bool ((rs.take k).any (clash rs[k]))) ∧ Below W.heap.size W w' := fun W br hb hr hW =>
        contains_any g off k cap br rs[k] rs W (by omega) (by omega) HCAP.out (Nat.lt_of_lt_of_le hg hW.size) (HC.out.below hW hg) hb hr (oks_of HF.out (by omega)) HLEN.out
      obtain ⟨r, hr⟩ : ∃ r, rs[k] = r := ⟨_, rfl⟩
      rw [hr] at c0 c1 c2 c3 c4 hbad hbad2 hgood hnmk
      simp only [hr] at hcon
      have HBAD := Lib.hid hbad
      have HBAD2 := Lib.hid hbad2
      have HGOOD := Lib.hid hgood
      have HNMK := Lib.hid hnmk
      have HCON := Lib.hid hcon
      have hsz := HBel.out.size
      clear hr hbad hbad2 hgood hnmk hcon
      rcases rng_cases r with hok | ⟨hno, hcs⟩
      · have hOk := rngB_ok hok
        have hnb : nameB r.nm = true := by simp [rngB] at hok; exact hok.1.1.1.1.1.1.1
        have m1 : (r.fr % 16 != 0) = false := by simp [rngB] at hok; simp; omega
        have m2 : (r.sz % 16 != 0) = false := by simp [rngB] at hok; simp; omega
        obtain ⟨f0, f1, s0, s1, fs⟩ := hOk
        have HOK := Lib.hid hok
        clear hok
        have HNB := Lib.hid hnb
        clear hnb
        go_wp2_with fail
        refine (mname_any _ _ HNMK.out).mono ?_
        rintro e w1 ⟨rfl, rfl⟩
        rw [HNB.out]
        go_wp2_with fail
        have hbw : Below w.heap.size w (wr.alloc (.cells (rngArr r) 48)) := HBel.out.alloc hsz _
        refine (HCON.out _ _ (Blk.new wr 48 (rngArr r)) ⟨f0, f1, s0, s1, fs⟩ hbw).mono ?_
        rintro e w1 ⟨rfl, hb1⟩
        have HB1 := Lib.hid (hbw.trans (hb1.mono hbw.size))
        clear hb1 hbw c0 c1 c2 c3 c4
        cases hcl : (rs.take k).any (clash r) with
        | true =>
          have HR := Lib.hid (HBAD2.out hcl)
          clear hcl
          go_wp2
          go_ret
          exact ⟨by rw [HR.out]; rfl, HB1.out⟩
        | false =>
          have HR := Lib.hid (HGOOD.out HOK.out hcl)
          clear hcl
          go_wp2
          go_roundw
          case rel => exact ⟨k + 1, by omega, by go_num, HR.out, HB1.out⟩
          case measure => simp [intOf]; omega
      · have HR := Lib.hid (HBAD.out hno)
        have HB1 := Lib.hid (fun o => HBel.out.alloc hsz o)
        clear hno
        rcases hcs with hnb | ⟨hnb, hcs⟩
        · have HNB := Lib.hid hnb
          clear hnb
          go_wp2_with fail
          refine (mname_any _ _ HNMK.out).mono ?_
          rintro e w1 ⟨rfl, rfl⟩
          rw [HNB.out]
          go_wp2_with fail
          go_ret
          exact ⟨by rw [HR.out]; rfl, HB1.out _⟩
        · have HNB := Lib.hid hnb
          clear hnb
          rcases hcs with q1 | ⟨q1, q2 | ⟨q2, q3 | ⟨q3, q4 | ⟨q4, q5 | ⟨q5, q6 | ⟨q6, q7⟩⟩⟩⟩⟩⟩
          all_goals
            go_wp2_with fail
            refine (mname_any _ _ HNMK.out).mono ?_
            rintro e w1 ⟨rfl, rfl⟩
            rw [HNB.out]
            go_wp2_with fail
            go_ret
            exact ⟨by rw [HR.out]; rfl, HB1.out _⟩
    · have hfin : chkR rs = 0 := mchk_good HLEN.out (by rw [HN.out]; intro j hj; exact HF.out j (by omega))
      have HFIN := Lib.hid hfin
      clear hfin
      go_wp2
      go_ret
      exact ⟨by rw [HFIN.out]; rfl, HBel.out⟩
/-- A slice of ranges reads ms these. -/
def RSlice (w : World) (v : Value) (rs : List Rng) : Prop :=
  ∃ A cap, v = .slice A rs.length cap ∧ rs.length ≤ cap ∧ cap ≤ maxLen ∧ (∀ r ∈ rs, r.nm.size ≤ maxLen) ∧ (rs ≠ [] → ∃ g off, A = some ⟨g, off, none⟩ ∧ g < w.heap.size ∧ RCells w g off rs)
theorem RSlice.below {w w' : World} {v : Value} {rs : List Rng} (h : RSlice w v rs) (hb : Below w.heap.size w w') : RSlice w' v rs := by
  obtain ⟨A, cap, rfl, h1, h2, h3, h4⟩ := h
  refine ⟨A, cap, rfl, h1, h2, h3, fun hne => ?_⟩
  obtain ⟨g, off, rfl, hg, hc⟩ := h4 hne
  exact ⟨g, off, rfl, Nat.lt_of_lt_of_le hg hb.size, hc.below hb hg⟩
theorem mcheck_long (A : Option Addr) (n cap : Nat) (rs : List Rng) (w : World) (hn : 16 < n) (hcap : n ≤ cap) (hmax : cap ≤ maxLen) (hr : rs.length = n) :
    Calls Tryz.prog 22 #[.slice A n cap] w fun e w' => e = .returned (.int .i64 (chkR rs)) ∧ Below w.heap.size w w' := by
  have hc : chkR rs = 3 := by unfold chkR; rw [if_pos (by omega)]
  have HC := Lib.hid hc
  clear hc hr
  unfold maxLen at hmax
  go_enter Tryz.func22, Tryz.ntmps22
  go_wp2_with fail
  go_ret
  exact ⟨by rw [HC.out]; rfl, Below.refl _ _⟩
theorem mcheck_none (A : Option Addr) (cap : Nat) (w : World) : Calls Tryz.prog 22 #[.slice A 0 cap] w fun e w' => e = .returned (.int .i64 (chkR [])) ∧ Below w.heap.size w w' := by
  have hc : chkR [] = 0 := rfl
  have HC := Lib.hid hc
  clear hc
  go_enter Tryz.func22, Tryz.ntmps22
  go_wp2_with fail
  refine wp_loop_rounds 1 ?_
  rw [rounds_succ]
  go_wp2_with fail
  go_ret
  exact ⟨rfl, Below.refl _ _⟩
theorem mcheck_any (v : Value) (rs : List Rng) (w : World) (h : RSlice w v rs) : Calls Tryz.prog 22 #[v] w fun e w' => e = .returned (.int .i64 (chkR rs)) ∧ Below w.heap.size w w' := by
  obtain ⟨A, cap, rfl, h1, h2, h3, h4⟩ := h
  by_cases hne : rs = []
  · subst hne; exact mcheck_none A cap w
  · by_cases hl : 16 < rs.length
    · exact mcheck_long A rs.length cap rs w hl h1 h2 rfl
    · obtain ⟨g, off, rfl, hg, hc⟩ := h4 hne
      exact mcheck_some g off cap rs w (by omega) h1 h2 hg hc h3
theorem chk_val (rs : List Rng) : chkR rs = 0 ∨ chkR rs = 3 ∨ chkR rs = 5 := by
  unfold chkR
  split
  · omega
  · split <;> omega
end Go.Proofs.YteoglkofeogknaaGreatDoor
