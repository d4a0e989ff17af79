/- Walks: (*Mem).Store. Conditions: numbers within the ranges' bounds. -/
import Derived.Test.YtbffclcjhcbejaaW2
import Derived.Deep.RegionHeld3
import Derived.IntWalk
namespace Go.Proofs.Ytbffclcjhcbejaa
open Go.RowKit

/-- A word's n lowest bytes. -/
def bytesOf (v : Int) (n : Nat) : List Int := [v % 256, v / 256 % 256, v / 65536 % 256, v / 16777216].take n
def putAt (xs : List Int) (k : Nat) (cs : List Int) : List Int := splice xs k cs

/-- What a store comes to: its error, and the area that is written. -/
def storeE (ms : List Area) (at_ n : Int) : Int × Option Area :=
  match accR ms at_ n with
  | (e, some a) => if a.r.wr then (e, some a) else (32, none)
  | (e, none) => (e, none)
/-- One area's bytes are put anew. -/
def setNow (ms : List Area) (b : Nat) (xs : List Int) : List Area := ms.map fun a => if a.b = b then { a with xs := xs } else a

set_option maxRecDepth 100000 in
set_option maxHeartbeats 1000000 in
theorem store_ok (bm : Nat) (ms : List Area) (at_ n v : Int) (a : Area) (w : World) (hm : MemAt w bm ms) (h4 : 0 ≤ at_) (h5 : at_ ≤ 4294967295) (hv0 : 0 ≤ v) (hv1 : v ≤ 4294967295) (hst : accR ms at_ n = (0, some a)) (hwr : a.r.wr = true) :
    Calls Try.prog 8 #[.pointer (some ⟨bm, 0, none⟩), .int .u32 at_, .int .i64 n, .int .u32 v] w
      fun e w' => e = .returned (.int .i64 0) ∧ ∃ g cur, Keeps (· = g) w w' ∧ Blk w g 5 cur ∧ g ∈ rowBlk a.now a.xs ∧ Blk w' g 5 (splice cur.toList (at_ - a.r.fr).toNat ((bytesOf v n.toNat).map (Value.int .u8))).toArray := by
  have HM := Lib.hid hm
  clear hm
  go_enter Try.func8, Try.ntmps8
  go_wp2_with fail
  refine (access_any _ ms _ _ _ HM.out h4 h5).mono ?_
  rintro e w1 ⟨rfl, hb1⟩
  have hm1 := HM.out.below hb1
  have HB1 := Lib.hid hb1
  have HM1 := Lib.hid hm1
  clear hm1 hb1
  rw [hst]
  obtain ⟨_, hn, _, hfa⟩ := accR_some hst
  obtain ⟨hmem, hn0, hfr, hend⟩ := findA_spec hfa
  have ha0 := HM.out.each a hmem
  have ha := HM1.out.each a hmem
  obtain ⟨k, hk⟩ : ∃ k : Nat, at_ - a.r.fr = k := ⟨(at_ - a.r.fr).toNat, by omega⟩
  obtain ⟨j, rfl⟩ : ∃ j : Nat, n = j := ⟨n.toNat, by omega⟩
  have hkj : k + j ≤ a.xs.length := by have := ha.lx; omega
  have hsz := ha.ok.s1
  have hlx := ha.lx
  obtain ⟨g, cap, cur, hnow, hcap, hcapm, hblk0, hcs, htake⟩ := ha0.now.open_ (by omega)
  have hblk : Blk w1 g 5 cur := hblk0.below HB1.out hblk0.lt
  have c5 : w1.cell? ⟨a.b, 5, none⟩ = some (.slice (some ⟨g, 0, none⟩) a.xs.length cap) := by rw [ha.blk.cell, ← hnow]; rfl
  have c3 : w1.cell? ⟨a.b, 3, none⟩ = some (.bool true) := by rw [ha.blk.cell, ← hwr]; rfl
  have hgm : g ∈ rowBlk a.now a.xs := by
    rw [hnow]
    unfold rowBlk
    rw [if_neg (by intro h; rw [h] at hkj; simp at hkj; omega)]
    simp [Value.ownBlock]
  simp only [accV, hk]
  have hlt : g < w1.heap.size := hblk.lt
  have hab : a.b < w1.heap.size := ha.blk.lt
  have hxl : a.xs.length ≤ 16777216 := by omega
  obtain ⟨w2, hcp, hb2, hk2⟩ := copy_run (P := Try.prog) (w1.alloc (.cells #[.int .u8 (v % 256), .int .u8 (v / 256 % 256), .int .u8 (v / 65536 % 256), .int .u8 (v / 16777216)] 5)).drew 33 33 3 5 g k j j ⟨w1.heap.size, 0, none⟩ 4 4 cur 5 ((bytesOf v j).map (Value.int .u8)) Try.underlying33 info5
    ((hblk.alloc _).drew) (by rcases hn with h | h | h <;> (obtain rfl : j = _ := by exact_mod_cast h) <;> rfl)
    (by
      intro i u hi
      have hn4 : ∀ i u, ([v % 256, v / 256 % 256, v / 65536 % 256, v / 16777216].map (Value.int .u8))[i]? = some u → (w1.alloc (.cells #[.int .u8 (v % 256), .int .u8 (v / 256 % 256), .int .u8 (v / 65536 % 256), .int .u8 (v / 16777216)] 5)).drew.cell? ((⟨w1.heap.size, 0, none⟩ : Addr).add i) = some u := by
        intro i u hi
        rw [addr_add, Nat.zero_add]
        have := (Blk.new w1 5 #[.int .u8 (v % 256), .int .u8 (v / 256 % 256), .int .u8 (v / 65536 % 256), .int .u8 (v / 16777216)]).drew.cell i
        rw [this, ← hi]
        simp
      apply hn4
      unfold bytesOf at hi
      rw [List.map_take, List.getElem?_take] at hi
      split at hi
      · exact hi
      · cases hi)
    (by
      have : ((bytesOf v j).map (Value.int .u8)).length ≤ j := by simp [bytesOf]; omega
      have := List.length_take_le a.xs.length cur.toList
      have h2 : cur.size = cap := hcs
      omega) (oneCell_bytes _)
  have hlb : ((bytesOf v j).map (Value.int .u8)).length = j := by rcases hn with h | h | h <;> (obtain rfl : j = _ := by exact_mod_cast h) <;> rfl
  rw [hlb] at hcp
  have hkeep : Keeps (· = g) w w2 := ((((keeps_of_below (fun i => i = g) HB1.out).alloc _).drew).trans hk2 (fun i hi e => e))
  have HFIN := Lib.hid (⟨g, cur, hkeep, hblk0, hgm, hb2⟩ : ∃ g cur, Keeps (· = g) w w2 ∧ Blk w g 5 cur ∧ g ∈ rowBlk a.now a.xs ∧ Blk w2 g 5 (splice cur.toList k ((bytesOf v j).map (Value.int .u8))).toArray)
  have HK := Lib.hid hk
  have hneb : a.b ≠ g := ha.blk.ne_ hblk (by decide)
  have c5w : w2.cell? ⟨a.b, 5, none⟩ = some (.slice (some ⟨g, 0, none⟩) a.xs.length cap) := by
    rw [hk2.cell (p := ⟨a.b, 5, none⟩) (by simp; omega) hneb, ((ha.blk.alloc _).drew).cell, ← hnow]; rfl
  clear hneb
  clear hkeep hb2 hk2 hblk hblk0 htake hgm hlb ha ha0 hn hfa hmem hk hlx hnow hcs hst hwr
  unfold maxLen at hcapm
  generalize hL : a.xs.length = L at *
  clear hL
  go_wp2_with fail
  have e1 : IntKind.i64.wrap ((k : Int) + (j : Int)) = (k : Int) + (j : Int) := IntWalk.i64_in _ (by omega)
  have e2 : (0 : Int) ≤ (k : Int) + (j : Int) := by omega
  have e3 : ((k : Int) + (j : Int)).toNat = k + j := by omega
  have e4 : (0 : Int) ≤ (k : Int) := by omega
  have e5 : (k : Int) ≤ (k : Int) + (j : Int) := by omega
  have e6 : (k : Int) + (j : Int) ≤ (cap : Int) := by omega
  have e7 : ¬ cap = k := by omega
  go_region_held3 (fun w' => w'.cell? ⟨a.b, 5, none⟩ = some (.slice (some ⟨g, 0, none⟩) L cap)) (go_keep)
    (first | (go_at_call 26; refine (bytes_any _ _ hv0 hv1).mono ?_; rintro e w' ⟨rfl, rfl⟩))
  go_wp2
  go_ret
  refine ⟨rfl, ?_⟩
  rw [HK.out]
  exact HFIN.out
end Go.Proofs.Ytbffclcjhcbejaa
