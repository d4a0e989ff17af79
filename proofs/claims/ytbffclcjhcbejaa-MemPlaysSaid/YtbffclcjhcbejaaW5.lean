/- Walks: (*Mem).Read. Conditions: numbers within the ranges' bounds. -/
import Derived.Test.YtbffclcjhcbejaaW4
namespace Go.Proofs.Ytbffclcjhcbejaa
open Go.RowKit

/-- What a read comes to: its bytes, its error. -/
def readR (ms : List Area) (at_ n : Int) : List Int × Int :=
  if n < 0 then ([], 1) else if 16777216 < n then ([], 3) else if n = 0 then ([], 0) else
    match findA ms at_ n with
    | none => ([], 30)
    | some a => (cut a.xs (at_ - a.r.fr).toNat n.toNat, 0)
def ReadPost (r : List Int × Int) (w : World) (e : Ending) (w' : World) : Prop :=
  ∃ v, e = .returned (.tuple #[v, .int .i64 r.2]) ∧ w'.ownsRow w.heap.size 5 1 v r.1.length (r.1.map (Value.int .u8)) ∧ Below w.heap.size w w'
theorem readPost_none {r : List Int × Int} {w w' : World} {e : Ending} (h : r.1 = []) (he : e = .returned (.tuple #[.slice none 0 0, .int .i64 r.2])) (hb : Below w.heap.size w w') : ReadPost r w e w' :=
  ⟨_, he, by rw [h]; exact World.ownsRow_nil _ _ _ _, hb⟩

set_option maxRecDepth 100000 in
set_option maxHeartbeats 1000000 in
theorem read_any (bm : Nat) (ms : List Area) (at_ n : Int) (w : World) (hm : MemAt w bm ms) (h4 : 0 ≤ at_) (h5 : at_ ≤ 4294967295) :
    Calls Try.prog 13 #[.pointer (some ⟨bm, 0, none⟩), .int .u32 at_, .int .i64 n] w (ReadPost (readR ms at_ n) w) := by
  have HM := Lib.hid hm
  clear hm
  by_cases c1 : n < 0
  · have hr : readR ms at_ n = ([], 1) := by simp [readR, c1]
    rw [hr]
    clear hr
    go_enter Try.func13, Try.ntmps13
    go_wp2_with fail
    go_ret2
    exact readPost_none rfl rfl (Below.refl _ _)
  by_cases c2 : 16777216 < n
  · have hr : readR ms at_ n = ([], 3) := by simp [readR, c1, c2]
    rw [hr]
    clear hr
    go_enter Try.func13, Try.ntmps13
    go_wp2_with fail
    go_ret2
    exact readPost_none rfl rfl (Below.refl _ _)
  by_cases c3 : n = 0
  · have hr : readR ms at_ n = ([], 0) := by simp [readR, c3]
    rw [hr]
    clear hr
    subst c3
    go_enter Try.func13, Try.ntmps13
    go_wp2_with fail
    go_ret2
    exact readPost_none rfl rfl (Below.refl _ _)
  have c3' : (n == 0) = false := by simpa using c3
  have c1' : 0 < n := by omega
  have c2' : n ≤ 16777216 := by omega
  have hr : readR ms at_ n = (match findA ms at_ n with | none => ([], 30) | some a => (cut a.xs (at_ - a.r.fr).toNat n.toNat, 0)) := by
    unfold readR; rw [if_neg c1, if_neg c2, if_neg c3]
  have HR := Lib.hid hr
  clear hr c1 c2 c3
  cases hfa : findA ms at_ n with
  | none =>
    have hr2 : readR ms at_ n = ([], 30) := by rw [HR.out, hfa]
    rw [hr2]
    have HFA := Lib.hid hfa
    clear hr2 hfa HR
    go_enter Try.func13, Try.ntmps13
    go_wp2_with fail
    refine (find_any _ ms _ _ _ HM.out h4 h5 c2').mono ?_
    rintro e w1 ⟨rfl, hb1⟩
    rw [HFA.out]
    have HB1 := Lib.hid hb1
    clear hb1
    simp only [findV]
    go_wp2_with fail
    go_ret2
    exact readPost_none rfl rfl HB1.out
  | some a =>
    obtain ⟨hmem, hn0, hfr, hend⟩ := findA_spec hfa
    obtain ⟨k, hk⟩ : ∃ k : Nat, at_ - a.r.fr = k := ⟨(at_ - a.r.fr).toNat, by omega⟩
    obtain ⟨j, rfl⟩ : ∃ j : Nat, n = j := ⟨n.toNat, by omega⟩
    have hr2 : readR ms at_ j = (cut a.xs k j, 0) := by rw [HR.out, hfa]; simp [hk]
    rw [hr2]
    have HFA := Lib.hid hfa
    have HK := Lib.hid hk
    clear hr2 hfa HR hk
    go_enter Try.func13, Try.ntmps13
    go_wp2_with fail
    refine (find_any _ ms _ _ _ HM.out h4 h5 c2').mono ?_
    rintro e w1 ⟨rfl, hb1⟩
    rw [HFA.out]
    simp only [findV]
    rw [HK.out]
    have hk := HK.out
    have ha := (HM.out.below hb1).each a hmem
    have hkj : k + j ≤ a.xs.length := by have := ha.lx; omega
    have hsz := ha.ok.s1
    have hlx := ha.lx
    obtain ⟨g, cap, cur, hnow, hcap, hcapm, hblk, hcs, htake⟩ := ha.now.open_ (by omega)
    have c5 : w1.cell? ⟨a.b, 5, none⟩ = some (.slice (some ⟨g, 0, none⟩) a.xs.length cap) := by rw [ha.blk.cell, ← hnow]; rfl
    have hcells := cut_cells hblk htake hkj
    have hxl : a.xs.length ≤ 16777216 := by omega
    have hcl := cut_length hkj
    have HCL := Lib.hid hcl
    have HC := Lib.hid hcells
    have HB1 := Lib.hid hb1
    clear hcells hb1 ha hlx hblk htake hnow hcs hmem hcl hk
    unfold maxLen at hcapm
    generalize hL : a.xs.length = L at *
    clear hL
    go_wp2_with fail
    have hcon := cloneB ⟨g, k, none⟩ (cap - k) (cut a.xs k j) w1 HC.out (by rw [HCL.out]; omega)
    rw [HCL.out] at hcon
    refine hcon.mono ?_
    rintro e w2 ⟨v, rfl, ho, hb2⟩
    have HO := Lib.hid ho
    have HB2 := Lib.hid hb2
    clear ho hb2 hcon
    go_wp2
    go_ret2
    refine ⟨v, rfl, ?_, HB1.out.trans (HB2.out.mono HB1.out.size)⟩
    have := HO.out
    rw [HCL.out]
    refine ⟨this.1, this.2.imp id ?_⟩
    rintro ⟨g', cap', cur', h1, h2, h3⟩
    exact ⟨g', cap', cur', h1, Nat.le_trans HB1.out.size h2, h3⟩
end Go.Proofs.Ytbffclcjhcbejaa
