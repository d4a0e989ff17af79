/- Walks: mem.name, (span).meets, Check's closure, slices.IndexFunc and ContainsFunc at it. Conditions: numbers within the ranges' bounds. -/
import Derived.Test.YtbffclcjhcbejaaW5
import Derived.Lib.Bytes
namespace Go.Proofs.Ytbffclcjhcbejaa
open Go.RowKit

def nameC (c : Nat) : Bool := (decide (97 ≤ c) && decide (c ≤ 122)) || (decide (48 ≤ c) && decide (c ≤ 57)) || c == 95
/-- Is a text a range's name? -/
def nameB (s : ByteArray) : Bool :=
  if h : 0 < s.size then decide (s.size ≤ 31) && decide (97 ≤ (s[0]'h).toNat) && decide ((s[0]'h).toNat ≤ 122) && s.data.toList.all (fun c => nameC c.toNat) else false

theorem take_snoc (s : ByteArray) (k : Nat) (h : k < s.size) : s.data.toList.take (k + 1) = s.data.toList.take k ++ [s[k]] := by
  rw [List.take_succ_eq_append_getElem (by simpa using h)]; rfl
theorem all_step (s : ByteArray) (p : UInt8 → Bool) (k : Nat) (h : k < s.size) (h1 : (s.data.toList.take k).all p = true) (h2 : p s[k] = true) : (s.data.toList.take (k + 1)).all p = true := by
  rw [take_snoc s k h, List.all_append, h1]; simp [h2]
theorem all_stop (s : ByteArray) (p : UInt8 → Bool) (k : Nat) (h : k < s.size) (h2 : p s[k] = false) : s.data.toList.all p = false := by
  rw [List.all_eq_false]
  exact ⟨s[k], by simp only [Array.mem_toList_iff]; exact Array.getElem_mem _, by simp [h2]⟩
theorem isEmpty_of (s : ByteArray) (h : 0 < s.size) : s.toList.isEmpty = false := by
  cases hl : s.toList with
  | nil =>
    have h2 : s.data.toList = [] := by rw [← hl, Lib.toList_data]
    have h4 := congrArg List.length h2
    rw [Array.length_toList] at h4
    exact absurd (show s.size = 0 from h4) (by omega)
  | cons _ _ => rfl
theorem isEmpty_nil (s : ByteArray) (h : ¬ 0 < s.size) : s.toList.isEmpty = true := by
  have h2 : s.data.toList = [] := by
    apply List.length_eq_zero_iff.1
    rw [Array.length_toList]
    exact (show s.size = 0 by omega)
  rw [Lib.toList_data, h2]; rfl
theorem nameC_true {c : Nat} (h : (97 ≤ c ∧ c ≤ 122) ∨ (48 ≤ c ∧ c ≤ 57) ∨ c = 95) : nameC c = true := by
  unfold nameC; simp; omega
theorem nameC_false {c : Nat} (h : ¬ ((97 ≤ c ∧ c ≤ 122) ∨ (48 ≤ c ∧ c ≤ 57) ∨ c = 95)) : nameC c = false := by
  unfold nameC; simp; omega

set_option maxRecDepth 100000 in
set_option maxHeartbeats 2000000 in
theorem name_any (s : ByteArray) (w : World) (hs : s.size ≤ maxLen) :
    Calls Try.prog 33 #[.string s] w fun e w' => e = .returned (.bool (nameB s)) ∧ w = w' := by
  unfold maxLen at hs
  by_cases h0 : 0 < s.size
  · have e0 := isEmpty_of s h0
    by_cases h1 : s.size ≤ 31
    · by_cases h2 : 97 ≤ (s[0]'h0).toNat
      · by_cases h3 : (s[0]'h0).toNat ≤ 122
        · have hfin : nameB s = s.data.toList.all (fun c => nameC c.toNat) := by simp [nameB, h0, h1, h2, h3]
          have HFIN := Lib.hid hfin
          clear hfin
          go_enter Try.func33, Try.ntmps33
          go_wp2
          go_loop [24] (fun i => ∃ k : Nat, k ≤ s.size ∧ i = .int .i64 k ∧ Hid ((s.data.toList.take k).all (fun c => nameC c.toNat) = true)) (fun i => s.size - (intOf i).toNat)
          case atStart => exact ⟨0, Nat.zero_le _, rfl, rfl⟩
          case round =>
            obtain ⟨k, hk, rfl, HA⟩ := hrel
            by_cases hlt : k < s.size
            · obtain ⟨c, hc⟩ : ∃ c : Nat, (s[k]'hlt).toNat = c := ⟨_, rfl⟩
              have HT := Lib.hid (fun h => all_step s (fun c => nameC c.toNat) k hlt HA.out (by rw [hc]; exact nameC_true (c := c) h))
              have HF := Lib.hid (fun h => all_stop s (fun c => nameC c.toNat) k hlt (by rw [hc]; exact nameC_false (c := c) h))
              clear h2 h3
              rcases (show ((97 ≤ c ∧ c ≤ 122) ∨ (48 ≤ c ∧ c ≤ 57) ∨ c = 95) ∨ (c < 48 ∨ (58 ≤ c ∧ c ≤ 94) ∨ c = 96 ∨ 123 ≤ c) by omega) with hcs | hcs
              · have HT2 := Lib.hid (HT.out hcs)
                rcases hcs with ⟨d1, d2⟩ | ⟨d1, d2⟩ | rfl
                all_goals
                  go_wp2
                  go_round
                  case rel => exact ⟨k + 1, by omega, by go_num, HT2.out⟩
                  case measure => simp [intOf]; omega
              · have HF2 := Lib.hid (HF.out (by omega))
                have q95 : ((c : Int) == 95) = false := by simp; omega
                rcases hcs with d1 | ⟨d1, d2⟩ | rfl | d1
                · go_wp2
                  go_ret
                  exact ⟨by rw [HFIN.out, HF2.out]; rfl, rfl⟩
                · have q57 : decide ((c : Int) ≤ 57) = false := by simp; omega
                  go_wp2
                  go_ret
                  exact ⟨by rw [HFIN.out, HF2.out]; rfl, rfl⟩
                · go_wp2
                  go_ret
                  exact ⟨by rw [HFIN.out, HF2.out]; rfl, rfl⟩
                · have q57 : decide ((c : Int) ≤ 57) = false := by simp; omega
                  have q122 : decide ((c : Int) ≤ 122) = false := by simp; omega
                  go_wp2
                  go_ret
                  exact ⟨by rw [HFIN.out, HF2.out]; rfl, rfl⟩
            · have hsk : s.data.toList.take k = s.data.toList := List.take_of_length_le (by have h3 : s.size = s.data.size := rfl; simp; omega)
              have hfin : nameB s = true := by rw [HFIN.out, ← hsk]; exact HA.out
              have HN := Lib.hid hfin
              clear hfin hsk
              go_wp2
              go_ret
              exact ⟨by rw [HN.out]; rfl, rfl⟩
        · have hfin : nameB s = false := by simp [nameB, h0, h1, h2, h3]
          have HFIN := Lib.hid hfin
          clear hfin
          go_enter Try.func33, Try.ntmps33
          go_wp2
          go_ret
          exact ⟨by rw [HFIN.out]; rfl, rfl⟩
      · have hfin : nameB s = false := by simp [nameB, h0, h1, h2]
        have HFIN := Lib.hid hfin
        clear hfin
        go_enter Try.func33, Try.ntmps33
        go_wp2
        go_ret
        exact ⟨by rw [HFIN.out]; rfl, rfl⟩
    · have hfin : nameB s = false := by simp [nameB, h0, h1]
      have HFIN := Lib.hid hfin
      clear hfin
      go_enter Try.func33, Try.ntmps33
      go_wp2
      go_ret
      exact ⟨by rw [HFIN.out]; rfl, rfl⟩
  · have e0 := isEmpty_nil s h0
    have hfin : nameB s = false := by simp [nameB, h0]
    have HFIN := Lib.hid hfin
    clear hfin
    go_enter Try.func33, Try.ntmps33
    go_wp2
    go_ret
    exact ⟨by rw [HFIN.out]; rfl, rfl⟩

def meetsB (r o : Rng) : Bool := decide (0 < r.sz) && decide (0 < o.sz) && decide (r.fr < o.fr + o.sz) && decide (o.fr < r.fr + r.sz)
set_option maxRecDepth 100000 in
set_option maxHeartbeats 400000 in
theorem meets_any (r o : Rng) (w : World) (hr : r.Ok) (ho : o.Ok) :
    Calls Try.prog 36 #[.agg #[.string r.nm, .int .i64 r.fr, .int .i64 r.sz, .bool r.wr, .bool r.ex], .agg #[.string o.nm, .int .i64 o.fr, .int .i64 o.sz, .bool o.wr, .bool o.ex]] w
      fun e w' => e = .returned (.bool (meetsB r o)) ∧ Below w.heap.size w w' := by
  obtain ⟨f0, f1, s0, s1, _⟩ := hr
  obtain ⟨g0, g1, t0, t1, _⟩ := ho
  have hb := fun o1 o2 => ((Below.refl w.heap.size w).alloc (Nat.le_refl _) o1).alloc (by simp) o2
  have HB := Lib.hid hb
  clear hb
  by_cases c1 : 0 < r.sz
  · by_cases c2 : 0 < o.sz
    · by_cases c3 : r.fr < o.fr + o.sz
      all_goals
        go_enter Try.func36, Try.ntmps36
        go_wp2
        go_ret
        exact ⟨ret_bool (by simp [meetsB]; omega), HB.out _ _⟩
    · go_enter Try.func36, Try.ntmps36
      go_wp2
      go_ret
      exact ⟨ret_bool (by simp [meetsB]; omega), HB.out _ _⟩
  · go_enter Try.func36, Try.ntmps36
    go_wp2
    go_ret
    exact ⟨ret_bool (by simp [meetsB]; omega), HB.out _ _⟩
/-- Do two ranges clash, by name or by an address? -/
def clash (r o : Rng) : Bool := (o.nm.toList == r.nm.toList) || meetsB r o
def rngArr (r : Rng) : Array Value := #[.string r.nm, .int .i64 r.fr, .int .i64 r.sz, .bool r.wr, .bool r.ex]
set_option maxRecDepth 100000 in
set_option maxHeartbeats 400000 in
theorem closure_any (br : Nat) (r o : Rng) (w : World) (hb : Blk w br 30 (rngArr r)) (hr : r.Ok) (ho : o.Ok) :
    Calls Try.prog 35 #[.agg #[.string o.nm, .int .i64 o.fr, .int .i64 o.sz, .bool o.wr, .bool o.ex], .pointer (some ⟨br, 0, none⟩)] w
      fun e w' => e = .returned (.bool (clash r o)) ∧ Below w.heap.size w w' := by
  have c0 : w.cell? ⟨br, 0, none⟩ = some (.string r.nm) := by rw [hb.cell]; rfl
  have c1 : w.cell? ⟨br, 1, none⟩ = some (.int .i64 r.fr) := by rw [hb.cell]; rfl
  have c2 : w.cell? ⟨br, 2, none⟩ = some (.int .i64 r.sz) := by rw [hb.cell]; rfl
  have c3 : w.cell? ⟨br, 3, none⟩ = some (.bool r.wr) := by rw [hb.cell]; rfl
  have c4 : w.cell? ⟨br, 4, none⟩ = some (.bool r.ex) := by rw [hb.cell]; rfl
  have hlt := hb.lt
  clear hb
  have hB := fun o1 => (Below.refl w.heap.size w).alloc (Nat.le_refl _) o1
  have HB := Lib.hid hB
  clear hB
  have HR := Lib.hid hr
  have HO := Lib.hid ho
  clear hr ho
  cases hn : (o.nm.toList == r.nm.toList) with
  | true =>
    have hc : clash r o = true := by simp only [clash, hn, Bool.true_or]
    have HC := Lib.hid hc
    clear hc
    go_enter Try.func35, Try.ntmps35
    go_wp2_with fail
    go_ret
    exact ⟨by rw [HC.out]; rfl, HB.out _⟩
  | false =>
    have hc : clash r o = meetsB r o := by simp only [clash, hn, Bool.false_or]
    have HC := Lib.hid hc
    clear hc
    go_enter Try.func35, Try.ntmps35
    go_wp2_with fail
    refine (meets_any r o _ HR.out HO.out).mono ?_
    rintro e w1 ⟨rfl, hb1⟩
    have HB1 := Lib.hid ((HB.out _).trans (hb1.mono (by simp)))
    clear hb1
    go_wp2
    go_ret
    exact ⟨by rw [HC.out]; rfl, HB1.out⟩
end Go.Proofs.Ytbffclcjhcbejaa
