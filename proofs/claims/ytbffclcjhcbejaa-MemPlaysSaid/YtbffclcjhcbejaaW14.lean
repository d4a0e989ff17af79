/- Walks: gaps (are two lists of gaps the same?). Conditions: none. -/
import Derived.Test.YtbffclcjhcbejaaW13
import Derived.Laws.StructEq
namespace Go.Proofs.Ytbffclcjhcbejaa
open Go.RowKit
theorem fields40 : Try.prog.underlying 40 = some (.struct (Try.prog.fieldsOf 40)) := by kernel_rfl
theorem stood40 : Try.prog.stoodInHeld 40 = false := by kernel_rfl
theorem guard40 : Try.prog.eqGuardType Try.prog.depth 40 = false := by kernel_rfl
theorem neq40 (a b c d : Int) (w : World) : (binOp .neq 40 (.agg #[.int .i64 a, .int .i64 b]) (.agg #[.int .i64 c, .int .i64 d])).run Try.prog w = .ok (.bool (!decide ((a, b) = (c, d)))) w := by
  have u3 := Try.underlying3
  have a3 := Try.isAgg3
  have z3 := Try.sizeOf3
  rw [run_neq_struct, show (10000 : Nat) = 9999 + 1 from rfl, run_equalIn_agg w 9999 40 _ _ fields40 stood40]
  simp only [Program.fieldsOf, Try.underlying40]
  go_simp
  by_cases h1 : a = c <;> by_cases h2 : b = d <;> simp [h1, h2]
/-- A slice of gaps reads ms these. -/
def GRow (w : World) (v : Value) (gs : List (Int × Int)) : Prop :=
  ∃ A cap, v = .slice A gs.length cap ∧ gs.length ≤ cap ∧ cap ≤ maxLen ∧ (gs ≠ [] → ∃ g, A = some ⟨g, 0, none⟩ ∧ g < w.heap.size ∧ ∀ j u, (flatG gs)[j]? = some u → w.cell? ⟨g, j, none⟩ = some u)
theorem GRow.below {w w' : World} {v : Value} {gs : List (Int × Int)} (h : GRow w v gs) (hb : Below w.heap.size w w') : GRow w' v gs := by
  obtain ⟨A, cap, rfl, h1, h2, h3⟩ := h
  refine ⟨A, cap, rfl, h1, h2, fun hne => ?_⟩
  obtain ⟨g, rfl, hg, hc⟩ := h3 hne
  exact ⟨g, rfl, Nat.lt_of_lt_of_le hg hb.size, fun j u hj => (hb.cell (p := ⟨g, j, none⟩) hg).trans (hc j u hj)⟩
theorem gRow_owns {w : World} {B : Nat} {v : Value} {gs : List (Int × Int)} (h : w.ownsRow B 40 2 v gs.length (flatG gs)) : GRow w v gs := by
  have hh := h
  rcases h.2 with ⟨rfl, h0⟩ | ⟨g, cap, cur, rfl, _, hb, h1, h2, _⟩
  · exact ⟨none, 0, by rw [h0], by omega, by decide, fun hne => absurd (List.length_eq_zero_iff.1 h0) hne⟩
  · refine ⟨_, cap, rfl, h1, h2, fun _ => ⟨g, rfl, Blk.lt (t := 40) hb, fun j u hj => ?_⟩⟩
    have := hh.cells (g := g) rfl j u hj
    rwa [addr_add, Nat.zero_add] at this
theorem flatG_at {gs : List (Int × Int)} {k : Nat} {p : Int × Int} (h : gs[k]? = some p) : (flatG gs)[k * 2]? = some (.int .i64 p.1) ∧ (flatG gs)[k * 2 + 1]? = some (.int .i64 p.2) := by
  obtain ⟨hk, rfl⟩ := List.getElem?_eq_some_iff.1 h
  have e : gs = gs.take k ++ (gs[k] :: gs.drop (k + 1)) := by rw [← List.drop_eq_getElem_cons hk, List.take_append_drop]
  have hl : (flatG (gs.take k)).length = k * 2 := by rw [flatG_len, List.length_take]; omega
  have e2 : flatG gs = flatG (gs.take k) ++ (.int .i64 gs[k].1 :: .int .i64 gs[k].2 :: flatG (gs.drop (k + 1))) := by
    conv => lhs; rw [e]
    rw [flatG_append]
    rfl
  rw [e2]
  constructor
  · rw [List.getElem?_append_right (by omega), hl]; simp
  · rw [List.getElem?_append_right (by omega), hl, Nat.add_sub_cancel_left]; simp
set_option maxHeartbeats 1000000 in
theorem gaps_any (v v' : Value) (gs hs : List (Int × Int)) (w : World) (hv : GRow w v gs) (hv' : GRow w v' hs) :
    Calls Try.prog 21 #[v, v'] w fun e w' => e = .returned (.bool (decide (gs = hs))) ∧ Below w.heap.size w w' := by
  obtain ⟨R, hR⟩ : ∃ R, decide (gs = hs) = R := ⟨_, rfl⟩
  rw [hR]
  have HR := Lib.hid hR
  clear hR
  obtain ⟨A, cap, rfl, hcap, hmax, hcells⟩ := hv
  obtain ⟨A', cap', rfl, hcap', hmax', hcells'⟩ := hv'
  have HC := Lib.hid hcells
  have HC' := Lib.hid hcells'
  have hgd := guard40
  clear hcells hcells'
  unfold maxLen at hmax hmax'
  by_cases hlen : gs.length = hs.length
  · obtain ⟨N, hN⟩ : ∃ N, gs.length = N := ⟨_, rfl⟩
    have hN' : hs.length = N := by omega
    rw [hN] at hcap ⊢
    rw [hN'] at hcap' ⊢
    have HN := Lib.hid hN
    have HN' := Lib.hid hN'
    clear hN hN' hlen
    go_enter Try.func21, Try.ntmps21
    go_wp2_with fail
    go_loopw [5] (fun i wr => ∃ k : Nat, k ≤ N ∧ i = .int .i64 k ∧ Hid (gs.take k = hs.take k) ∧ Hid (∃ q, wr = w.drewN q)) (fun i _ => N - (intOf i).toNat)
    case atStart => exact ⟨0, Nat.zero_le _, rfl, rfl, 0, rfl⟩
    case round =>
      obtain ⟨k, hk, rfl, HT, HQ⟩ := hrel
      obtain ⟨q, rfl⟩ := HQ.out
      clear HQ
      by_cases hlt : k < N
      · have hkl : k < gs.length := by rw [HN.out]; exact hlt
        have hkl' : k < hs.length := by rw [HN'.out]; exact hlt
        obtain ⟨g, rfl, hg, hc⟩ := HC.out (by rintro rfl; simp at hkl)
        obtain ⟨g', rfl, hg', hc'⟩ := HC'.out (by rintro rfl; simp at hkl')
        obtain ⟨⟨a, b⟩, hp⟩ : ∃ p, gs[k]? = some p := ⟨_, List.getElem?_eq_getElem hkl⟩
        obtain ⟨⟨c, d⟩, hp'⟩ : ∃ p, hs[k]? = some p := ⟨_, List.getElem?_eq_getElem hkl'⟩
        have c1 := hc _ _ (flatG_at hp).1
        have c2 := hc _ _ (flatG_at hp).2
        have c3 := hc' _ _ (flatG_at hp').1
        have c4 := hc' _ _ (flatG_at hp').2
        dsimp only at c1 c2 c3 c4
        have hne := fun w => neq40 a b c d w
        have HP := Lib.hid hp
        have HP' := Lib.hid hp'
        clear hp hp' hc hc' hg hg'
        by_cases he : (a, b) = (c, d)
        · have hde : decide ((a, b) = (c, d)) = true := by simpa using he
          rw [hde] at hne
          have hnx : gs.take (k + 1) = hs.take (k + 1) := by
            rw [List.take_add_one, List.take_add_one, HT.out, HP.out, HP'.out, he]
          have HNX := Lib.hid hnx
          clear hnx he hde
          go_wp2_with fail
          go_quiet (fail)
          go_wp2_with fail
          go_roundw
          case rel => exact ⟨k + 1, by omega, by go_num, HNX.out, _, rfl⟩
          case measure => simp [intOf]; omega
        · have hde : decide ((a, b) = (c, d)) = false := by simpa using he
          rw [hde] at hne
          have hfin : R = false := by
            rw [← HR.out]
            simp only [decide_eq_false_iff_not]
            rintro rfl
            rw [HP.out] at HP'
            have := HP'.out
            simp only [Option.some.injEq] at this
            exact he this
          have HF := Lib.hid hfin
          clear hfin he hde
          go_wp2_with fail
          go_quiet (fail)
          go_wp2_with fail
          go_ret
          exact ⟨ret_bool HF.out.symm, below_dN (below_dN (Below.refl _ _) _) _⟩
      · have hfin : R = true := by
          rw [← HR.out]
          simp only [decide_eq_true_eq]
          have := HT.out
          rwa [List.take_of_length_le (by rw [HN.out]; omega), List.take_of_length_le (by rw [HN'.out]; omega)] at this
        have HF := Lib.hid hfin
        clear hfin
        go_wp2_with fail
        go_ret
        exact ⟨ret_bool HF.out.symm, below_dN (Below.refl _ _) _⟩
  · have hfin : R = false := by
      rw [← HR.out]
      simp only [decide_eq_false_iff_not]
      rintro rfl
      exact hlen rfl
    have HF := Lib.hid hfin
    clear hfin HR HC HC'
    have hlb : ((gs.length : Int) != (hs.length : Int)) = true := by simp; omega
    generalize gs.length = N at *
    generalize hs.length = N' at *
    clear hlen
    go_enter Try.func21, Try.ntmps21
    go_wp2_with fail
    go_ret
    exact ⟨ret_bool HF.out.symm, Below.refl _ _⟩
end Go.Proofs.Ytbffclcjhcbejaa
