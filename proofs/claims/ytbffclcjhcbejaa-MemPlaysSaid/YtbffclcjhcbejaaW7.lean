/- Walks: slices.IndexFunc and ContainsFunc at Check's closure. Conditions: numbers within the ranges' bounds. -/
import Derived.Test.YtbffclcjhcbejaaW6
namespace Go.Proofs.Ytbffclcjhcbejaa
open Go.RowKit

/-- Cells of ranges, one behind the other. -/
def RCells (w : World) (g off : Nat) (rs : List Rng) : Prop :=
  ∀ i (h : i < rs.length) (j : Nat) (u : Value), (rngArr rs[i])[j]? = some u → w.cell? ⟨g, off + i * 5 + j, none⟩ = some u
/-- A slice value reads as ranges. -/
def RRow (w : World) (v : Value) (rs : List Rng) : Prop :=
  ∃ A cap, v = .slice A rs.length cap ∧ rs.length ≤ cap ∧ cap ≤ maxLen ∧ (rs ≠ [] → ∃ g off, A = some ⟨g, off, none⟩ ∧ g < w.heap.size ∧ RCells w g off rs)
theorem RCells.below {w w' : World} {g off : Nat} {rs : List Rng} (h : RCells w g off rs) (hb : Below w.heap.size w w') (hg : g < w.heap.size) : RCells w' g off rs :=
  fun i hi j u hu => (hb.cell (p := ⟨g, off + i * 5 + j, none⟩) hg).trans (h i hi j u hu)
theorem RRow.below {w w' : World} {v : Value} {rs : List Rng} (h : RRow w v rs) (hb : Below w.heap.size w w') : RRow w' v rs := by
  obtain ⟨A, cap, rfl, h1, h2, h3⟩ := h
  refine ⟨A, cap, rfl, h1, h2, fun hne => ?_⟩
  obtain ⟨g, off, rfl, hg, hc⟩ := h3 hne
  exact ⟨g, off, rfl, Nat.lt_of_lt_of_le hg hb.size, hc.below hb hg⟩
theorem RCells.five {w : World} {g off : Nat} {rs : List Rng} (h : RCells w g off rs) {i : Nat} (hi : i < rs.length) :
    w.cell? ⟨g, off + i * 5, none⟩ = some (.string rs[i].nm) ∧ w.cell? ⟨g, off + i * 5 + 1, none⟩ = some (.int .i64 rs[i].fr) ∧ w.cell? ⟨g, off + i * 5 + 2, none⟩ = some (.int .i64 rs[i].sz) ∧
      w.cell? ⟨g, off + i * 5 + 3, none⟩ = some (.bool rs[i].wr) ∧ w.cell? ⟨g, off + i * 5 + 4, none⟩ = some (.bool rs[i].ex) :=
  ⟨h i hi 0 _ rfl, h i hi 1 _ rfl, h i hi 2 _ rfl, h i hi 3 _ rfl, h i hi 4 _ rfl⟩

theorem any_step {rs : List Rng} {p : Rng → Bool} {k : Nat} (hk : k < rs.length) (h : (rs.take k).any p = false) (h2 : p rs[k] = false) : (rs.take (k + 1)).any p = false := by
  rw [List.take_succ_eq_append_getElem hk, List.any_append, h]; simp [h2]
theorem any_hit {rs : List Rng} {p : Rng → Bool} {k n : Nat} (hk : k < rs.length) (hkn : k < n) (h2 : p rs[k] = true) : (rs.take n).any p = true := by
  rw [List.any_eq_true]
  exact ⟨rs[k], List.mem_take_iff_getElem.2 ⟨k, by omega, rfl⟩, h2⟩

set_option maxRecDepth 100000 in
set_option maxHeartbeats 1000000 in
theorem index_any (g off n cap br : Nat) (r : Rng) (rs : List Rng) (w : World) (hn : n ≤ rs.length) (hn2 : n ≤ cap) (hcap : cap ≤ maxLen) (hg : g < w.heap.size) (hc : RCells w g off rs) (hb : Blk w br 30 (rngArr r)) (hr : r.Ok) (ho : ∀ o ∈ rs.take n, o.Ok) (hl : rs.length ≤ 16) :
    Calls Try.prog 52 #[.slice (some ⟨g, off, none⟩) n cap, .func (.func 35) #[] #[.pointer (some ⟨br, 0, none⟩)]] w
      fun e w' => ∃ i : Int, e = .returned (.int .i64 i) ∧ decide (0 ≤ i) = (rs.take n).any (clash r) ∧ Below w.heap.size w w' := by
  unfold maxLen at hcap
  have HC := Lib.hid hc
  have HB := Lib.hid hb
  have HR := Lib.hid hr
  have HO := Lib.hid ho
  clear hc hb hr ho
  go_enter Try.func52, Try.ntmps52
  go_wp2
  go_loopw [8] (fun i wr => ∃ k : Nat, k ≤ n ∧ i = .int .i64 k ∧ Hid ((rs.take k).any (clash r) = false) ∧ Below w.heap.size w wr) (fun i _ => n - (intOf i).toNat)
  case atStart => exact ⟨0, Nat.zero_le _, rfl, rfl, Below.refl _ _⟩
  case round =>
    obtain ⟨k, hk, rfl, HF, hbel⟩ := hrel
    have HBel := Lib.hid hbel
    clear hbel
    by_cases hlt : k < n
    · have hkl : k < rs.length := by omega
      obtain ⟨c0, c1, c2, c3, c4⟩ := (HC.out.below HBel.out hg).five hkl
      have hbr := HB.out.below HBel.out HB.out.lt
      have hok : (rs[k]).Ok := HO.out _ (List.mem_take_iff_getElem.2 ⟨k, by omega, rfl⟩)
      have HBR := Lib.hid hbr
      have HOK := Lib.hid hok
      clear hbr hok
      go_wp2_with fail
      refine (closure_any br r rs[k] _ HBR.out HR.out HOK.out).mono ?_
      rintro e w1 ⟨rfl, hb1⟩
      have HB1 := Lib.hid (HBel.out.trans (hb1.mono HBel.out.size))
      clear hb1 c0 c1 c2 c3 c4
      cases hcl : clash r rs[k] with
      | true =>
        have HT := Lib.hid (any_hit (n := n) hkl hlt hcl)
        clear hcl
        go_wp2
        go_ret
        exact ⟨k, rfl, by rw [HT.out]; simp, HB1.out⟩
      | false =>
        have HT := Lib.hid (any_step hkl HF.out hcl)
        clear hcl
        go_wp2
        go_roundw
        case rel => exact ⟨k + 1, by omega, by go_num, HT.out, HB1.out⟩
        case measure => simp [intOf]; omega
    · have hkn : k = n := by omega
      have HKN := Lib.hid hkn
      clear hkn
      go_wp2
      go_ret
      exact ⟨-1, rfl, by rw [← HKN.out, HF.out]; rfl, HBel.out⟩
set_option maxRecDepth 100000 in
set_option maxHeartbeats 400000 in
theorem contains_any (g off n cap br : Nat) (r : Rng) (rs : List Rng) (w : World) (hn : n ≤ rs.length) (hn2 : n ≤ cap) (hcap : cap ≤ maxLen) (hg : g < w.heap.size) (hc : RCells w g off rs) (hb : Blk w br 30 (rngArr r)) (hr : r.Ok) (ho : ∀ o ∈ rs.take n, o.Ok) (hl : rs.length ≤ 16) :
    Calls Try.prog 34 #[.slice (some ⟨g, off, none⟩) n cap, .func (.func 35) #[] #[.pointer (some ⟨br, 0, none⟩)]] w
      fun e w' => e = .returned (.bool ((rs.take n).any (clash r))) ∧ Below w.heap.size w w' := by
  have HI := Lib.hid (index_any g off n cap br r rs w hn hn2 hcap hg hc hb hr ho hl)
  clear hc hb hr ho
  go_enter Try.func34, Try.ntmps34
  go_wp2_with fail
  refine HI.out.mono ?_
  rintro e w1 ⟨i, rfl, hd, hb1⟩
  have HD := Lib.hid hd
  have HB1 := Lib.hid hb1
  clear hd hb1
  go_wp2
  go_ret
  exact ⟨by rw [← HD.out]; rfl, HB1.out⟩
end Go.Proofs.Ytbffclcjhcbejaa
