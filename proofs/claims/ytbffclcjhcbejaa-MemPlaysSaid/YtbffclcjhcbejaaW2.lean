/- Walks: (*Mem).Load. Conditions: numbers within the ranges' bounds. -/
import Derived.Test.YtbffclcjhcbejaaW1
import Derived.Laws.CopyOwn
namespace Go.Proofs.Ytbffclcjhcbejaa
open Go.RowKit

/-- Bytes as a number, the lowest first. -/
def leW : List Int → Int
  | [] => 0
  | b :: r => b + 256 * leW r
/-- n bytes from place k on. -/
def cut (xs : List Int) (k n : Nat) : List Int := (xs.drop k).take n

theorem findA_spec {ms : List Area} {at_ n : Int} {a : Area} (h : findA ms at_ n = some a) : a ∈ ms ∧ 0 < n ∧ a.r.fr ≤ at_ ∧ at_ + n ≤ a.r.fr + a.r.sz := by
  have h1 := List.mem_of_find?_eq_some h
  have h2 : a.has at_ n = true := List.find?_some (p := fun a : Area => a.has at_ n) h
  simp [Area.has, hasB] at h2
  exact ⟨h1, h2.1.1, h2.1.2, h2.2⟩
theorem accR_some {ms : List Area} {at_ n : Int} {e : Int} {a : Area} (h : accR ms at_ n = (e, some a)) : e = 0 ∧ (n = 1 ∨ n = 2 ∨ n = 4) ∧ at_ % n = 0 ∧ findA ms at_ n = some a := by
  unfold accR at h
  split at h
  · cases h
  · split at h
    · cases h
    · rename_i h1 h2
      cases hf : findA ms at_ n with
      | none => rw [hf] at h; cases h
      | some b =>
        rw [hf] at h
        cases h
        exact ⟨rfl, by omega, by omega, rfl⟩
theorem accR_none {ms : List Area} {at_ n : Int} {e : Int} (h : accR ms at_ n = (e, none)) : e = 1 ∨ e = 31 ∨ e = 30 := by
  unfold accR at h
  split at h
  · cases h; omega
  · split at h
    · cases h; omega
    · split at h
      · cases h; omega
      · cases h

/-- The row of bytes, opened where it holds something. -/
theorem BRow.open_ {w : World} {v : Value} {xs : List Int} (h : BRow w v xs) (hne : 0 < xs.length) :
    ∃ g cap cur, v = .slice (some ⟨g, 0, none⟩) xs.length cap ∧ xs.length ≤ cap ∧ cap ≤ maxLen ∧ Blk w g 5 cur ∧ cur.size = cap ∧ cur.toList.take xs.length = xs.map (Value.int .u8) := by
  obtain ⟨A, cap, rfl, h1, h2, hb⟩ := h
  obtain ⟨g, cur, rfl, hb, h3, h4⟩ := hb (fun e => by simp [e] at hne)
  exact ⟨g, cap, cur, rfl, h1, h2, hb, h3, h4⟩
theorem row_get {cur : Array Value} {xs : List Int} (h : cur.toList.take xs.length = xs.map (Value.int .u8)) (i : Nat) (hi : i < xs.length) : cur[i]? = some (.int .u8 xs[i]) := by
  have h1 := congrArg (·[i]?) h
  simp only [List.getElem?_take, List.getElem?_map] at h1
  rw [if_pos hi, List.getElem?_eq_getElem hi] at h1
  simpa using h1
theorem cut_get {xs : List Int} {k n i : Nat} (hi : i < n) (hk : k + n ≤ xs.length) : (cut xs k n)[i]? = some (xs[k + i]'(by omega)) := by
  simp [cut, hi]
theorem cut_length {xs : List Int} {k n : Nat} (hk : k + n ≤ xs.length) : (cut xs k n).length = n := by
  simp [cut]; omega
theorem cut_bytes {xs : List Int} {k n : Nat} (h : isBytes xs) : isBytes (cut xs k n) := fun x hx => h x (List.mem_of_mem_drop (List.mem_of_mem_take hx))

def loadR (ms : List Area) (at_ n : Int) : Int × Int :=
  match accR ms at_ n with
  | (e, some a) => (leW (cut a.xs (at_ - a.r.fr).toNat n.toNat), e)
  | (e, none) => (0, e)
theorem info5 : (Try.prog.info? 5).map (·.size) = some 1 := by kernel_rfl

theorem four_of {cs : List Int} (hn : cs.length = 1 ∨ cs.length = 2 ∨ cs.length = 4) (hb : isBytes cs) :
    ∃ b0 b1 b2 b3, splice [Value.int .u8 0, .int .u8 0, .int .u8 0, .int .u8 0] 0 (cs.map (Value.int .u8)) = [.int .u8 b0, .int .u8 b1, .int .u8 b2, .int .u8 b3] ∧ fromW b0 b1 b2 b3 = leW cs ∧
      (0 ≤ b0 ∧ b0 ≤ 255) ∧ (0 ≤ b1 ∧ b1 ≤ 255) ∧ (0 ≤ b2 ∧ b2 ≤ 255) ∧ (0 ≤ b3 ∧ b3 ≤ 255) := by
  match cs, hn with
  | [x0], _ => exact ⟨x0, 0, 0, 0, rfl, by simp [fromW, leW], hb x0 (by simp), by omega, by omega, by omega⟩
  | [x0, x1], _ => exact ⟨x0, x1, 0, 0, rfl, by simp [fromW, leW], hb x0 (by simp), hb x1 (by simp), by omega, by omega⟩
  | [x0, x1, x2, x3], _ => exact ⟨x0, x1, x2, x3, rfl, by simp [fromW, leW]; omega, hb x0 (by simp), hb x1 (by simp), hb x2 (by simp), hb x3 (by simp)⟩
  | [], h => simp at h
  | [_, _, _], h => simp at h
  | _ :: _ :: _ :: _ :: _ :: _, h => simp at h

/-- A copy into a row: the row is spliced, all else stays. -/
theorem copy_run {P : Program} (w : World) (dT sT ty elem : TypeId) (g o dLen dCap : Nat) (a : Addr) (sLen sCap : Nat) (cur : Array Value) (t : TypeId) (cs : List Value)
    (hu : P.underlying dT = some (.slice elem)) (hs : (P.info? elem).map (·.size) = some 1)
    (hg : Blk w g t cur) (hn : cs.length = Nat.min sLen dLen)
    (hsrc : ∀ j v, cs[j]? = some v → w.cell? (a.add j) = some v) (hfit : o + cs.length ≤ cur.size) (h1 : ∀ v ∈ cs, v.oneCell' = true) :
    ∃ w2, (Builtin.copy_ #[dT, sT] ty #[.slice (some ⟨g, o, none⟩) dLen dCap, .slice (some a) sLen sCap]).run P w = .ok (goInt cs.length) w2 ∧
      Blk w2 g t (splice cur.toList o cs).toArray ∧ Keeps (· = g) w w2 := by
  refine ⟨_, run_copy_row P w dT sT ty elem g o dLen dCap a sLen sCap cur t cs hu hs hg hn hsrc hfit h1, ?_, ?_⟩
  · have := setRow_heap w g cur (cur.toList.take o ++ cs ++ cur.toList.drop (o + cs.length)).toArray t (0, 0) hg
    simpa [Blk, splice] using this
  · refine ⟨rfl, rfl, rfl, by simp [World.setRow], fun k _ hne => ?_⟩
    simp only [World.setRow, Array.getElem?_modify]
    rw [if_neg (fun e => hne e.symm)]
theorem oneCell_bytes (l : List Int) : ∀ v ∈ l.map (Value.int .u8), v.oneCell' = true := by
  intro v hv
  obtain ⟨x, _, rfl⟩ := List.mem_map.1 hv
  rfl
theorem addr_add (g k j : Nat) : (⟨g, k, none⟩ : Addr).add j = ⟨g, k + j, none⟩ := by unfold Addr.add; split <;> simp_all
/-- The cells of a cut of a row of bytes. -/
theorem cut_cells {w : World} {g : Nat} {cur : Array Value} {xs : List Int} (hb : Blk w g 5 cur) (ht : cur.toList.take xs.length = xs.map (Value.int .u8)) {k n : Nat} (hk : k + n ≤ xs.length) :
    ∀ j v, ((cut xs k n).map (Value.int .u8))[j]? = some v → w.cell? ((⟨g, k, none⟩ : Addr).add j) = some v := by
  intro j v hj
  have hjn : j < n := by
    rcases Nat.lt_or_ge j n with h | h
    · exact h
    · rw [List.getElem?_eq_none (by simp [cut_length hk]; omega)] at hj; cases hj
  rw [List.getElem?_map, cut_get hjn hk] at hj
  cases hj
  rw [addr_add, hb.cell]
  exact row_get ht (k + j) (by omega)
set_option maxRecDepth 100000 in
set_option maxHeartbeats 1000000 in
theorem load_any (bm : Nat) (ms : List Area) (at_ n : Int) (w : World) (hm : MemAt w bm ms) (h4 : 0 ≤ at_) (h5 : at_ ≤ 4294967295) :
    Calls Try.prog 12 #[.pointer (some ⟨bm, 0, none⟩), .int .u32 at_, .int .i64 n] w
      fun e w' => e = .returned (.tuple #[.int .u32 (loadR ms at_ n).1, .int .i64 (loadR ms at_ n).2]) ∧ Below w.heap.size w w' := by
  have hmk : ∀ w, (Instr.makeSlice 33 (.int .i64 4) (.int .i64 4)).run Try.prog w = .ok (.slice (some ⟨w.heap.size, 0, none⟩) 4 4) (w.alloc (.cells #[.int .u8 0, .int .u8 0, .int .u8 0, .int .u8 0] 5)) := fun _ => by kernel_rfl
  have HM := Lib.hid hm
  clear hm
  go_enter Try.func12, Try.ntmps12
  go_wp2_with fail
  refine (access_any _ ms _ _ _ HM.out h4 h5).mono ?_
  rintro e w1 ⟨rfl, hb1⟩
  have hm1 := HM.out.below hb1
  have HB1 := Lib.hid hb1
  have HM1 := Lib.hid hm1
  have hlr : loadR ms at_ n = (match accR ms at_ n with | (e, some a) => (leW (cut a.xs (at_ - a.r.fr).toNat n.toNat), e) | (e, none) => (0, e)) := rfl
  generalize hacc : accR ms at_ n = acc at hlr ⊢
  have HLR := Lib.hid hlr
  clear hm1 hb1 hlr
  obtain ⟨e, oa⟩ := acc
  cases oa with
  | none =>
    have he := accR_none hacc
    have he2 : (e != 0) = true := by simp; omega
    clear he hacc
    simp only [accV]
    go_wp2
    go_ret2
    exact ⟨by rw [HLR.out]; rfl, HB1.out⟩
  | some a =>
    obtain ⟨rfl, hn, _, hfa⟩ := accR_some hacc
    obtain ⟨hmem, hn0, hfr, hend⟩ := findA_spec hfa
    have ha := HM1.out.each a hmem
    obtain ⟨k, hk⟩ : ∃ k : Nat, at_ - a.r.fr = k := ⟨(at_ - a.r.fr).toNat, by omega⟩
    obtain ⟨j, rfl⟩ : ∃ j : Nat, n = j := ⟨n.toNat, by omega⟩
    have hkj : k + j ≤ a.xs.length := by have := ha.lx; omega
    have hsz := ha.ok.s1
    have hlx := ha.lx
    obtain ⟨g, cap, cur, hnow, hcap, hcapm, hblk, hcs, htake⟩ := ha.now.open_ (by omega)
    have c5 : w1.cell? ⟨a.b, 5, none⟩ = some (.slice (some ⟨g, 0, none⟩) a.xs.length cap) := by rw [ha.blk.cell, ← hnow]; rfl
    simp only [accV, hk]
    have hlt : g < w1.heap.size := hblk.lt
    have hab : a.b < w1.heap.size := ha.blk.lt
    have HA := Lib.hid ha
    have HBLK := Lib.hid hblk
    have HT := Lib.hid htake
    have HK := Lib.hid hk
    have HN := Lib.hid hn
    have HLX := Lib.hid hlx
    clear ha hblk htake hk hn hfa hmem hacc hlx hnow hcs
    unfold maxLen at hcapm
    have hxl : a.xs.length ≤ 16777216 := by have := HLX.out; omega
    obtain ⟨w2, hcp, hb2, hk2⟩ := copy_run (P := Try.prog) (w1.alloc (.cells #[.int .u8 0, .int .u8 0, .int .u8 0, .int .u8 0] 5)) 33 33 3 5 w1.heap.size 0 4 4 ⟨g, k, none⟩ j j _ 5 ((cut a.xs k j).map (Value.int .u8)) Try.underlying33 info5
      (Blk.new w1 5 _) (by rw [List.length_map, cut_length hkj]; rcases HN.out with h | h | h <;> (obtain rfl : j = _ := by exact_mod_cast h) <;> rfl)
      (cut_cells (HBLK.out.alloc _) HT.out hkj) (by rw [List.length_map, cut_length hkj]; rcases HN.out with h | h | h <;> simp <;> omega) (oneCell_bytes _)
    rw [List.length_map, cut_length hkj] at hcp
    obtain ⟨b0, b1, b2, b3, hsp, hfw, hb0, hb1', hb2', hb3⟩ := four_of (cs := cut a.xs k j) (by rw [cut_length hkj]; rcases HN.out with h | h | h <;> omega) (cut_bytes HA.out.bx)
    rw [hsp] at hb2
    have d0 : w2.cell? ⟨w1.heap.size, 0, none⟩ = some (.int .u8 b0) := by rw [hb2.cell]; rfl
    have d1 : w2.cell? ⟨w1.heap.size, 1, none⟩ = some (.int .u8 b1) := by rw [hb2.cell]; rfl
    have d2 : w2.cell? ⟨w1.heap.size, 2, none⟩ = some (.int .u8 b2) := by rw [hb2.cell]; rfl
    have d3 : w2.cell? ⟨w1.heap.size, 3, none⟩ = some (.int .u8 b3) := by rw [hb2.cell]; rfl
    have hbel : Below w.heap.size w w2 := ((((keeps_of_below (fun _ => False) HB1.out).alloc _).trans hk2 (fun i hi e => by have := HB1.out.size; omega))).below
    have HBEL := Lib.hid hbel
    have HFW := Lib.hid hfw
    clear hb2 hk2 hbel hfw hsp
    generalize hL : a.xs.length = L at *
    have HL := Lib.hid hL
    clear hL
    go_wp2_with fail
    refine (from_any _ _ _ _ _ _ _ d0 d1 d2 d3 hb0 hb1' hb2' hb3).mono ?_
    rintro e w3 ⟨rfl, hb3'⟩
    have HB3 := Lib.hid (HBEL.out.trans (hb3'.mono HBEL.out.size))
    clear hb3'
    go_wp2
    go_ret2
    exact ⟨by rw [HLR.out, HK.out, HFW.out]; rfl, HB3.out⟩
end Go.Proofs.Ytbffclcjhcbejaa
