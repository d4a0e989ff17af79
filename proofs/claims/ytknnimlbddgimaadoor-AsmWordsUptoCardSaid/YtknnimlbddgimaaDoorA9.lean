/- The walk of the law: symbols, constants and lines are the same in both texts. Conditions: the table is laid; the lines are below the Builder's limit. -/
import Derived.Test.YtknnimlbddgimaaDoorA8
import Derived.Test.YtknnimlbddgimaaDoorA1
import Derived.Laws.StructEq
namespace Go.Proofs.YtknnimlbddgimaaDoor
open Go.RowKit
theorem fields29 : Tryd.prog.underlying 29 = some (.struct (Tryd.prog.fieldsOf 29)) := by kernel_rfl
theorem stood29 : Tryd.prog.stoodInHeld 29 = false := by kernel_rfl
theorem guard29 : Tryd.prog.eqGuardType Tryd.prog.depth 29 = false := by kernel_rfl
theorem neq_same (a b c d e : Int) (w : World) : (binOp .neq 29 (.agg #[.int .i64 a, .int .i64 b, .int .i64 c, .int .i64 d, .int .i64 e]) (.agg #[.int .i64 a, .int .i64 b, .int .i64 c, .int .i64 d, .int .i64 e])).run Tryd.prog w = .ok (.bool false) w := by
  have u3 := Tryd.underlying3
  have a3 := Tryd.isAgg3
  have z3 := Tryd.sizeOf3
  rw [run_neq_struct, show (10000 : Nat) = 9999 + 1 from rfl, run_equalIn_agg w 9999 29 _ _ fields29 stood29]
  simp only [Program.fieldsOf, Tryd.underlying29]
  go_simp
theorem row_form {w : World} {B : Nat} {e : TypeId} {size : Nat} {v : Value} {n : Nat} {xs : List Value} (h : w.ownsRow B e size v n xs) : ∃ A cap, v = .slice A n cap ∧ n ≤ cap ∧ cap ≤ maxLen ∧ (0 < n → ∃ g, A = some ⟨g, 0, none⟩ ∧ g < w.heap.size ∧ ∀ j u, xs[j]? = some u → w.cell? ⟨g, j, none⟩ = some u) := by
  have hh := h
  rcases h.2 with ⟨rfl, rfl⟩ | ⟨g, cap, cur, rfl, _, hb, h1, h2, _⟩
  · exact ⟨none, 0, rfl, by omega, by decide, fun h => by omega⟩
  · refine ⟨_, cap, rfl, h1, h2, fun _ => ⟨g, rfl, (hh.lt g rfl).2, fun j u hj => ?_⟩⟩
    have := hh.cells (g := g) rfl j u hj
    rwa [addr_add, Nat.zero_add] at this
/-- A list of instructions, flat, of this many. -/
def IsInstrs (n : Nat) (xs : List Value) : Prop := xs = [] ∧ n = 0 ∨ (∃ a b c d e, n = 1 ∧ xs = [.int .i64 a, .int .i64 b, .int .i64 c, .int .i64 d, .int .i64 e]) ∨
  ∃ a b c d e f g h i j, n = 2 ∧ xs = [.int .i64 a, .int .i64 b, .int .i64 c, .int .i64 d, .int .i64 e, .int .i64 f, .int .i64 g, .int .i64 h, .int .i64 i, .int .i64 j]
theorem con_instrs (d n : Int) : IsInstrs (conN d n) (conL d n) := by
  unfold conN conL
  split
  · exact Or.inl ⟨rfl, rfl⟩
  · split
    · exact Or.inr (Or.inl ⟨_, _, _, _, _, rfl, rfl⟩)
    · split
      · exact Or.inr (Or.inl ⟨_, _, _, _, _, rfl, rfl⟩)
      · exact Or.inr (Or.inr ⟨_, _, _, _, _, _, _, _, _, _, rfl, rfl⟩)
set_option maxHeartbeats 4000000 in
set_option maxRecDepth 100000 in
theorem law_any (s : ByteArray) (d n : Int) (v : Value) (ss : List ByteArray) (w : World) (hs : s.size ≤ maxLen) (hO : OpsAt w) (h0 : 0 < w.heap.size) (hv : StrRow w v ss) (hl : (linesL ss).length ≤ 4194304) (hl2 : ss.length ≤ 4194304) :
    Calls Tryd.prog 3 #[.string s, .int .i64 d, .int .i64 n, v] w fun e w' => e = .returned (.bool true) ∧ Below w.heap.size w w' := by
  have HO := Lib.hid hO
  have HV := Lib.hid hv
  have HS := Lib.hid hs
  clear hO hv hs
  obtain ⟨A, cap, rfl, hcap, hmax, _⟩ := HV.out
  have hgd := guard29
  have hneq := neq_same
  have HNEQ := Lib.hid hneq
  clear hneq
  go_enter Tryd.func3, Tryd.ntmps3
  go_wp2_with fail
  refine (const_any _ _ _).mono ?_
  rintro e w1 ⟨v1, rfl, ho1, hb1⟩
  obtain ⟨A1, cap1, rfl, hc1, hm1, hx1⟩ := row_form ho1
  have HX1 := Lib.hid hx1
  have HB1 := Lib.hid hb1
  clear hx1 ho1 hb1
  go_wp2_with fail
  refine (rconst_any _ _ _).mono ?_
  rintro e w2 ⟨v2, rfl, ho2, hb2⟩
  obtain ⟨A2, cap2, rfl, hc2, hm2, hx2⟩ := row_form ho2
  have HX2 := Lib.hid hx2
  have HB2 := Lib.hid (HB1.out.trans (hb2.mono HB1.out.size))
  have HB12 := Lib.hid hb2
  clear hx2 ho2 hb2
  go_wp2_with fail
  refine (sym_any s w2 HS.out (HO.out.below h0 HB2.out) (Nat.lt_of_lt_of_le h0 HB2.out.size)).mono ?_
  rintro e w3 ⟨rfl, hb3⟩
  have HB3 := Lib.hid (HB2.out.trans (hb3.mono HB2.out.size))
  have HB23 := Lib.hid hb3
  clear hb3
  go_wp2_with fail
  refine (rsym_any s w3 HS.out).mono ?_
  rintro e w4 ⟨rfl, hb4⟩
  have HB4 := Lib.hid (HB3.out.trans (hb4.mono HB3.out.size))
  have HB34 := Lib.hid hb4
  clear hb4
  rw [sym_same]
  go_wp2_with fail
  have HI := Lib.hid (con_instrs d n)
  generalize conN d n = N at *
  generalize conL d n = L at *
  unfold maxLen at hm1 hm2
  go_loopw [13] (fun i wr => ∃ k : Nat, k ≤ N ∧ i = .int .i64 k ∧ Hid (∃ q, wr = w4.drewN q)) (fun i _ => N - (intOf i).toNat)
  case atStart => exact ⟨0, Nat.zero_le _, rfl, 0, rfl⟩
  case round =>
    obtain ⟨k, hk, rfl, HQ⟩ := hrel
    obtain ⟨q, rfl⟩ := HQ.out
    clear HQ
    by_cases hlt : k < N
    · obtain ⟨g1, rfl, hg1, hx1⟩ := HX1.out (by omega)
      obtain ⟨g2, rfl, hg2, hx2⟩ := HX2.out (by omega)
      have hy1 : ∀ j u, L[j]? = some u → w4.cell? ⟨g1, j, none⟩ = some u := fun j u hj => by
        rw [HB34.out.cell (p := ⟨g1, j, none⟩) (Nat.lt_of_lt_of_le hg1 (Nat.le_trans HB12.out.size HB23.out.size)), HB23.out.cell (p := ⟨g1, j, none⟩) (Nat.lt_of_lt_of_le hg1 HB12.out.size), HB12.out.cell (p := ⟨g1, j, none⟩) hg1]
        exact hx1 j u hj
      have hy2 : ∀ j u, L[j]? = some u → w4.cell? ⟨g2, j, none⟩ = some u := fun j u hj => by
        rw [HB34.out.cell (p := ⟨g2, j, none⟩) (Nat.lt_of_lt_of_le hg2 HB23.out.size), HB23.out.cell (p := ⟨g2, j, none⟩) hg2]
        exact hx2 j u hj
      clear hx1 hx2 hg1 hg2
      rcases HI.out with ⟨_, rfl⟩ | ⟨a, b, c, d', e, rfl, rfl⟩ | ⟨a, b, c, d', e, a', b', c', d'', e', rfl, rfl⟩
      · omega
      · obtain rfl : k = 0 := by omega
        have p0 := hy1 0 _ rfl
        have p1 := hy1 1 _ rfl
        have p2 := hy1 2 _ rfl
        have p3 := hy1 3 _ rfl
        have p4 := hy1 4 _ rfl
        have q0 := hy2 0 _ rfl
        have q1 := hy2 1 _ rfl
        have q2 := hy2 2 _ rfl
        have q3 := hy2 3 _ rfl
        have q4 := hy2 4 _ rfl
        have hne := fun w => HNEQ.out a b c d' e w
        clear hy1 hy2
        go_wp2_with fail
        go_quiet (fail)
        go_wp2_with fail
        go_roundw
        case rel => exact ⟨1, by omega, by go_num, _, rfl⟩
        case measure => simp [intOf]
      · have hk2 : k = 0 ∨ k = 1 := by omega
        have p0 := hy1 0 _ rfl
        have p1 := hy1 1 _ rfl
        have p2 := hy1 2 _ rfl
        have p3 := hy1 3 _ rfl
        have p4 := hy1 4 _ rfl
        have q0 := hy2 0 _ rfl
        have q1 := hy2 1 _ rfl
        have q2 := hy2 2 _ rfl
        have q3 := hy2 3 _ rfl
        have q4 := hy2 4 _ rfl
        have p5 := hy1 5 _ rfl
        have p6 := hy1 6 _ rfl
        have p7 := hy1 7 _ rfl
        have p8 := hy1 8 _ rfl
        have p9 := hy1 9 _ rfl
        have q5 := hy2 5 _ rfl
        have q6 := hy2 6 _ rfl
        have q7 := hy2 7 _ rfl
        have q8 := hy2 8 _ rfl
        have q9 := hy2 9 _ rfl
        have hne := fun w => HNEQ.out a b c d' e w
        have hne2 := fun w => HNEQ.out a' b' c' d'' e' w
        clear hy1 hy2
        rcases hk2 with rfl | rfl
        · go_wp2_with fail
          go_quiet (fail)
          go_wp2_with fail
          go_roundw
          case rel => exact ⟨1, by omega, by go_num, _, rfl⟩
          case measure => simp [intOf]
        · go_wp2_with fail
          go_quiet (fail)
          go_wp2_with fail
          go_roundw
          case rel => exact ⟨2, by omega, by go_num, _, rfl⟩
          case measure => simp [intOf]
    · have hbq : Below w.heap.size w (w4.drewN q) := below_dN HB4.out q
      have HBQ := Lib.hid hbq
      clear hbq
      go_wp2_with fail
      refine (texts_any _ ss _ (HV.out.below HBQ.out) hl2).mono ?_
      rintro e w5 ⟨v5, rfl, hs5, hb5⟩
      have HB5 := Lib.hid (HBQ.out.trans (hb5.mono HBQ.out.size))
      have HS5 := Lib.hid hs5
      clear hb5 hs5
      go_wp2_with fail
      refine (lines_any _ ss _ HS5.out hl).mono ?_
      rintro e w6 ⟨rfl, hb6⟩
      have HB6 := Lib.hid (HB5.out.trans (hb6.mono HB5.out.size))
      have HS6 := Lib.hid (HS5.out.below hb6)
      clear hb6
      generalize hstr : (⟨(linesL ss).toArray⟩ : ByteArray) = str
      go_wp2_with fail
      have hrl := rlines_any _ ss w6 (HV.out.below HB6.out) hl
      rw [hstr] at hrl
      refine hrl.mono ?_
      rintro e w7 ⟨rfl, rfl⟩
      go_wp2_with fail
      refine (sameTexts_any _ _ ss _ HS6.out (HV.out.below HB6.out)).mono ?_
      rintro e w7 ⟨rfl, hb7⟩
      have HB7 := Lib.hid (HB6.out.trans (hb7.mono HB6.out.size))
      clear hb7
      go_wp2_with fail
      go_ret
      exact ⟨rfl, HB7.out⟩
end Go.Proofs.YtknnimlbddgimaaDoor
