/- Walks: (span).has, (*Mem).find, (*Mem).access, word.Bytes, word.From: what each comes to. Conditions: numbers within the ranges' bounds. -/
import Derived.Test.YtbffclcjhcbejaaModel
import Derived.Test.YtbffclcjhcbejaaBits
import Derived.Deep.QuietTactic
import Derived.BigQuiet
namespace Go.Proofs.Ytbffclcjhcbejaa
open Go.RowKit

def hasB (fr sz at_ n : Int) : Bool := decide (0 < n) && decide (fr ≤ at_) && decide (at_ + n ≤ fr + sz)

theorem below_dN {B : Nat} {a w : World} (h : Below B a w) (n : Nat) : Below B a (w.drewN n) := ⟨h.os, h.tape, h.output, h.size, h.block⟩
theorem ret_bool {a b : Bool} (h : a = b) : Ending.returned (.bool a) = .returned (.bool b) := by rw [h]

set_option maxHeartbeats 400000 in
theorem has_any (nm : ByteArray) (fr sz : Int) (wr ex : Bool) (at_ n : Int) (w : World) (h0 : 16 ≤ fr) (h1 : fr ≤ 4294967296) (h2 : 0 ≤ sz) (h3 : sz ≤ 16777216)
    (h4 : 0 ≤ at_) (h5 : at_ ≤ 4294967296) (h6 : n ≤ 16777216) :
    Calls Try.prog 51 #[.agg #[.string nm, .int .i64 fr, .int .i64 sz, .bool wr, .bool ex], .int .i64 at_, .int .i64 n] w
      fun e w' => e = .returned (.bool (hasB fr sz at_ n)) ∧ Below w.heap.size w w' := by
  have hb := fun o => (Below.refl w.heap.size w).alloc (Nat.le_refl _) o
  have HB := Lib.hid hb
  clear hb
  by_cases g1 : 0 < n
  · by_cases g2 : fr ≤ at_
    · go_enter Try.func51, Try.ntmps51
      go_wp2
      go_ret
      exact ⟨ret_bool (by simp [hasB]; omega), HB.out _⟩
    · go_enter Try.func51, Try.ntmps51
      go_wp2
      go_ret
      exact ⟨ret_bool (by simp [hasB]; omega), HB.out _⟩
  · go_enter Try.func51, Try.ntmps51
    go_wp2
    go_ret
    exact ⟨ret_bool (by simp [hasB]; omega), HB.out _⟩

def Area.has (a : Area) (at_ n : Int) : Bool := hasB a.r.fr a.r.sz at_ n
/-- The first area that has n bytes from an address on. -/
def findA (ms : List Area) (at_ n : Int) : Option Area := ms.find? fun a => a.has at_ n
def findV (at_ : Int) : Option Area → Value
  | some a => .tuple #[.pointer (some ⟨a.b, 0, none⟩), .int .i64 (at_ - a.r.fr)]
  | none => .tuple #[.pointer none, .int .i64 0]

theorem find_skip {ms : List Area} {at_ n : Int} {k : Nat} (hk : k < ms.length) (h : findA ms at_ n = findA (ms.drop k) at_ n) (hf : ms[k].has at_ n = false) :
    findA ms at_ n = findA (ms.drop (k + 1)) at_ n := by
  rw [h]; unfold findA; rw [List.drop_eq_getElem_cons hk, List.find?_cons]; simp only [hf]
theorem find_hit {ms : List Area} {at_ n : Int} {k : Nat} (hk : k < ms.length) (h : findA ms at_ n = findA (ms.drop k) at_ n) (hf : ms[k].has at_ n = true) :
    findA ms at_ n = some ms[k] := by
  rw [h]; unfold findA; rw [List.drop_eq_getElem_cons hk, List.find?_cons]; simp only [hf]
theorem find_none {ms : List Area} {at_ n : Int} {k : Nat} (hk : ms.length ≤ k) (h : findA ms at_ n = findA (ms.drop k) at_ n) : findA ms at_ n = none := by
  rw [h, List.drop_of_length_le hk]
  rfl

set_option maxHeartbeats 1000000 in
theorem find_any (bm : Nat) (ms : List Area) (at_ n : Int) (w : World) (hm : MemAt w bm ms) (h4 : 0 ≤ at_) (h5 : at_ ≤ 4294967295) (h6 : n ≤ 16777216) :
    Calls Try.prog 32 #[.pointer (some ⟨bm, 0, none⟩), .int .u32 at_, .int .i64 n] w
      fun e w' => e = .returned (findV at_ (findA ms at_ n)) ∧ Below w.heap.size w w' := by
  obtain ⟨lv, hlv, hown⟩ := hm.top
  have hc0 : w.cell? ⟨bm, 0, none⟩ = some lv := by rw [hlv.cell]; rfl
  have hmax := hm.few
  rcases hown.2 with ⟨hv, hn0⟩ | ⟨gl, cap, cur, hv, _, hrow, hcap, hcapm, hcs, htake⟩
  · subst hv
    obtain rfl : ms = [] := List.length_eq_zero_iff.1 hn0
    go_enter Try.func32, Try.ntmps32
    go_wp2
    refine wp_loop_rounds 1 ?_
    rw [rounds_succ]
    go_wp2
    go_ret2
    exact ⟨rfl, Below.refl _ _⟩
  · subst hv
    have hcell : ∀ k, (hk : k < ms.length) → w.cell? ⟨gl, k, none⟩ = some (.pointer (some ⟨ms[k].b, 0, none⟩)) := by
      intro k hk
      rw [cell_of_row w gl k cur 63 (0, 0) hrow]
      have : cur.toList[k]? = some (ptrV ms[k].b) := by
        have h1 := congrArg (·[k]?) htake
        simp only [List.getElem?_take, List.getElem?_map] at h1
        rw [if_pos (by omega), List.getElem?_eq_getElem hk] at h1
        exact h1
      simpa [ptrV] using this
    have hgl : gl < w.heap.size := Blk.lt (t := 63) hrow
    have HM := Lib.hid hm
    have HC := Lib.hid hcell
    clear hm hcell hown hlv htake hrow hcs
    unfold maxLen at hcapm
    go_enter Try.func32, Try.ntmps32
    go_wp2
    go_loopw [9, 15] (fun _ i wr => ∃ k : Nat, k ≤ ms.length ∧ i = .int .i64 k ∧ Hid (findA ms at_ n = findA (ms.drop k) at_ n) ∧ Below w.heap.size w wr) (fun _ i _ => ms.length - (intOf i).toNat)
    case atStart => exact ⟨0, Nat.zero_le _, rfl, rfl, Below.refl _ _⟩
    case round =>
      obtain ⟨k, hk, rfl, HF, hbel⟩ := hrel
      have HBel := Lib.hid hbel
      clear hbel
      by_cases hlt : k < ms.length
      · have ha := (HM.out.below HBel.out).each ms[k] (List.getElem_mem hlt)
        have hcl : wr.cell? ⟨gl, k, none⟩ = some (.pointer (some ⟨ms[k].b, 0, none⟩)) := (HBel.out.cell (p := ⟨gl, k, none⟩) hgl).trans (HC.out k hlt)
        obtain ⟨a, hak⟩ : ∃ a, ms[k] = a := ⟨_, rfl⟩
        rw [hak] at ha hcl
        have HAK := Lib.hid hak
        clear hak
        have c0 : wr.cell? ⟨a.b, 0, none⟩ = some (.string a.r.nm) := by rw [ha.blk.cell]; rfl
        have c1 : wr.cell? ⟨a.b, 1, none⟩ = some (.int .i64 a.r.fr) := by rw [ha.blk.cell]; rfl
        have c2 : wr.cell? ⟨a.b, 2, none⟩ = some (.int .i64 a.r.sz) := by rw [ha.blk.cell]; rfl
        have c3 : wr.cell? ⟨a.b, 3, none⟩ = some (.bool a.r.wr) := by rw [ha.blk.cell]; rfl
        have c4 : wr.cell? ⟨a.b, 4, none⟩ = some (.bool a.r.ex) := by rw [ha.blk.cell]; rfl
        have hlt2 : a.b < wr.heap.size := ha.blk.lt
        have hok := ha.ok
        obtain ⟨f0, f1, s0, s1, fs⟩ := hok
        clear ha
        go_wp2_with fail
        refine (has_any _ _ _ _ _ _ _ _ f0 f1 s0 s1 h4 (by omega) h6).mono ?_
        rintro e w1 ⟨rfl, hb1⟩
        have hbw := HBel.out.trans (hb1.mono (by have := HBel.out.size; omega))
        have HBW := Lib.hid hbw
        clear hbw
        obtain ⟨hcc, _⟩ := bcell hb1
        have hd1 : w1.cell? ⟨a.b, 1, none⟩ = some (.int .i64 a.r.fr) := (hb1.cell (p := ⟨a.b, 1, none⟩) hlt2).trans c1
        clear hb1 hcc c0 c1 c2 c3 c4 hcl
        by_cases hh : hasB a.r.fr a.r.sz at_ n = true
        · have hhf := find_hit hlt HF.out (by rw [HAK.out]; exact hh)
          rw [HAK.out] at hhf
          have HHF := Lib.hid hhf
          clear hhf
          rw [hh]
          have HH := Lib.hid hh
          clear hh
          go_wp2
          go_quiet (fail)
          go_wp2
          go_ret2
          exact ⟨by rw [HHF.out]; rfl, below_dN HBW.out _⟩
        · have hh' : hasB a.r.fr a.r.sz at_ n = false := by simpa using hh
          have hhf := find_skip hlt HF.out (by rw [HAK.out]; exact hh')
          have HHF := Lib.hid hhf
          rw [hh']
          clear hhf hh hh'
          go_wp2
          go_roundw
          case rel => exact ⟨k + 1, by omega, by go_num, HHF.out, HBW.out⟩
          case measure => simp [intOf]; omega
      · have hhf := find_none (by omega) HF.out
        have HHF := Lib.hid hhf
        clear hhf
        go_wp2
        go_ret2
        exact ⟨by rw [HHF.out]; rfl, HBel.out⟩

/-- What an access comes to: its error, and the area. -/
def accR (ms : List Area) (at_ n : Int) : Int × Option Area :=
  if n ≠ 1 ∧ n ≠ 2 ∧ n ≠ 4 then (1, none) else if at_ % n ≠ 0 then (31, none) else
    match findA ms at_ n with
    | none => (30, none)
    | some a => (0, some a)
def accV (at_ : Int) : Int × Option Area → Value
  | (e, some a) => .tuple #[.pointer (some ⟨a.b, 0, none⟩), .int .i64 (at_ - a.r.fr), .int .i64 e]
  | (e, none) => .tuple #[.pointer none, .int .i64 0, .int .i64 e]

set_option maxHeartbeats 1000000 in
theorem access_num (bm : Nat) (ms : List Area) (at_ n : Int) (w : World) (hm : MemAt w bm ms) (h4 : 0 ≤ at_) (h5 : at_ ≤ 4294967295) (hn : n = 1 ∨ n = 2 ∨ n = 4) :
    Calls Try.prog 25 #[.pointer (some ⟨bm, 0, none⟩), .int .u32 at_, .int .i64 n] w
      fun e w' => e = .returned (accV at_ (accR ms at_ n)) ∧ Below w.heap.size w w' := by
  have HM := Lib.hid hm
  clear hm
  have hfin : accR ms at_ n = (if at_ % n ≠ 0 then (31, none) else match findA ms at_ n with | none => (30, none) | some a => (0, some a) : Int × Option Area) := by
    unfold accR; rw [if_neg (by omega)]
  have HFIN := Lib.hid hfin
  clear hfin
  by_cases hz : at_ % n = 0
  · have hz' : (at_ % n != 0) = false := by simp [hz]
    have hfin2 : accR ms at_ n = (match findA ms at_ n with | none => (30, none) | some a => (0, some a) : Int × Option Area) := by rw [HFIN.out, if_neg (by simp [hz])]
    have HFIN2 := Lib.hid hfin2
    clear hfin2 hz
    rcases hn with rfl | rfl | rfl
    all_goals
      go_enter Try.func25, Try.ntmps25
      go_wp2_with fail
      refine (find_any _ ms _ _ _ HM.out h4 h5 (by omega)).mono ?_
      rintro e w1 ⟨rfl, hb1⟩
      have HB1 := Lib.hid hb1
      clear hb1
      generalize hfa : findA ms at_ _ = fa
      have HFA := Lib.hid hfa
      clear hfa
      cases fa
      all_goals
        simp only [findV]
        go_wp2
        go_ret3
        exact ⟨by rw [HFIN2.out, HFA.out]; rfl, HB1.out⟩
  · have hz' : (at_ % n != 0) = true := by simp [hz]
    have hfin2 : accR ms at_ n = (31, none) := by rw [HFIN.out, if_pos hz]
    have HFIN2 := Lib.hid hfin2
    clear hfin2
    rcases hn with rfl | rfl | rfl
    · omega
    all_goals
      clear hz
      go_enter Try.func25, Try.ntmps25
      go_wp2_with fail
      go_ret3
      exact ⟨by rw [HFIN2.out]; rfl, Below.refl _ _⟩
set_option maxHeartbeats 400000 in
theorem access_bad (bm : Nat) (ms : List Area) (at_ n : Int) (w : World) (h1 : (n != 1) = true) (h2 : (n != 2) = true) (h3 : (n != 4) = true) :
    Calls Try.prog 25 #[.pointer (some ⟨bm, 0, none⟩), .int .u32 at_, .int .i64 n] w
      fun e w' => e = .returned (accV at_ (accR ms at_ n)) ∧ Below w.heap.size w w' := by
  have hfin : accR ms at_ n = (1, none) := by unfold accR; rw [if_pos ⟨by simpa using h1, by simpa using h2, by simpa using h3⟩]
  have HFIN := Lib.hid hfin
  clear hfin
  go_enter Try.func25, Try.ntmps25
  go_wp2_with fail
  go_ret3
  exact ⟨by rw [HFIN.out]; rfl, Below.refl _ _⟩
theorem access_any (bm : Nat) (ms : List Area) (at_ n : Int) (w : World) (hm : MemAt w bm ms) (h4 : 0 ≤ at_) (h5 : at_ ≤ 4294967295) :
    Calls Try.prog 25 #[.pointer (some ⟨bm, 0, none⟩), .int .u32 at_, .int .i64 n] w
      fun e w' => e = .returned (accV at_ (accR ms at_ n)) ∧ Below w.heap.size w w' := by
  by_cases hn : n = 1 ∨ n = 2 ∨ n = 4
  · exact access_num bm ms at_ n w hm h4 h5 hn
  · exact access_bad bm ms at_ n w (by simp; omega) (by simp; omega) (by simp; omega)

set_option maxHeartbeats 400000 in
theorem bytes_any (a : Int) (w : World) (h0 : 0 ≤ a) (h1 : a ≤ 4294967295) :
    Calls Try.prog 26 #[.int .u32 a] w
      fun e w' => e = .returned (.slice (some ⟨w.heap.size, 0, none⟩) 4 4) ∧ w' = w.alloc (.cells #[.int .u8 (a % 256), .int .u8 (a / 256 % 256), .int .u8 (a / 65536 % 256), .int .u8 (a / 16777216)] 5) := by
  go_enter Try.func26, Try.ntmps26
  go_wp2
  go_ret
  exact ⟨rfl, rfl⟩
set_option maxHeartbeats 400000 in
theorem from_any (g : Nat) (b0 b1 b2 b3 : Int) (cap : Nat) (w : World) (hc0 : w.cell? ⟨g, 0, none⟩ = some (.int .u8 b0)) (hc1 : w.cell? ⟨g, 1, none⟩ = some (.int .u8 b1)) (hc2 : w.cell? ⟨g, 2, none⟩ = some (.int .u8 b2)) (hc3 : w.cell? ⟨g, 3, none⟩ = some (.int .u8 b3))
    (h0 : 0 ≤ b0 ∧ b0 ≤ 255) (h1 : 0 ≤ b1 ∧ b1 ≤ 255) (h2 : 0 ≤ b2 ∧ b2 ≤ 255) (h3 : 0 ≤ b3 ∧ b3 ≤ 255) :
    Calls Try.prog 31 #[.slice (some ⟨g, 0, none⟩) 4 cap] w
      fun e w' => e = .returned (.tuple #[.int .u32 (fromW b0 b1 b2 b3), .int .i64 0]) ∧ Below w.heap.size w w' := by
  obtain ⟨h00, h01⟩ := h0
  obtain ⟨h10, h11⟩ := h1
  obtain ⟨h20, h21⟩ := h2
  obtain ⟨h30, h31⟩ := h3
  go_enter Try.func31, Try.ntmps31
  go_wp2
  go_quiet (fail)
  go_wp2
  go_ret2
  exact ⟨congrArg (fun z : Int => Ending.returned (.tuple #[.int .u32 z, .int .i64 0])) (or4 b0 b1 b2 b3 h00 h01 h10 h11 h20 h21 h30 h31), below_dN (Below.refl _ _) _⟩
end Go.Proofs.Ytbffclcjhcbejaa
