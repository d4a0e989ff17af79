/- Walks: link.Near and the reference's Near. Conditions: none but a slice of symbols that came in. -/
import Derived.Test.YteoglkofeogknaaGreatDoorX0
import Derived.BigRegion
import Derived.Deep.RegionHeld3
import Derived.Deep.CutRange
set_option linter.unusedVariables false
set_option linter.unusedSimpArgs false
namespace Go.Proofs.YteoglkofeogknaaGreatDoor
open Go.RowKit
structure Sy where
  nm : ByteArray
  at_ : Int
instance : Inhabited Sy := ⟨⟨ByteArray.empty, 0⟩⟩
def Sy.cells (x : Sy) : List Value := [.string x.nm, .int .i64 x.at_]
/-- A slice of symbols. -/
def SyOf (W : World) (v : Value) (xs : List Sy) : Prop := ∃ A cap, v = .slice A xs.length cap ∧ xs.length ≤ cap ∧ cap ≤ maxLen ∧ (0 < xs.length → ∃ g off, A = some ⟨g, off, none⟩ ∧ g < W.heap.size ∧ ∀ k, k < xs.length → W.cell? ⟨g, off + k * 2, none⟩ = some (.string (xs.getD k default).nm) ∧ W.cell? ⟨g, off + k * 2 + 1, none⟩ = some (.int .i64 (xs.getD k default).at_))
/-- Does i stand better than b? -/
def nearT (l : List Sy) (a b : Int) (i : Nat) : Bool := decide ((l.getD i default).at_ ≤ a) && (decide (b < 0) || decide ((l.getD b.toNat default).at_ < (l.getD i default).at_))
def nearB (l : List Sy) (a : Int) : Nat → Int
  | 0 => -1
  | i + 1 => if nearT l a (nearB l a i) i then (i : Int) else nearB l a i
/-- What Near answers. -/
def nearR (l : List Sy) (a : Int) : ByteArray × Int × Int :=
  if 4096 < l.length then (⟨#[]⟩, 0, 3)
  else if nearB l a l.length < 0 then (⟨#[]⟩, 0, 4)
  else ((l.getD (nearB l a l.length).toNat default).nm, wrap64 (a - (l.getD (nearB l a l.length).toNat default).at_), 0)
theorem nearB_lt (l : List Sy) (a : Int) : ∀ i : Nat, -1 ≤ nearB l a i ∧ nearB l a i < (i : Int)
  | 0 => by unfold nearB; omega
  | i + 1 => by
    have := nearB_lt l a i
    unfold nearB
    split <;> omega
theorem nearB_step (l : List Sy) (a : Int) (i : Nat) : nearB l a (i + 1) = if nearT l a (nearB l a i) i then (i : Int) else nearB l a i := rfl
def nearV (r : ByteArray × Int × Int) : Value := .tuple #[.string r.1, .int .i64 r.2.1, .int .i64 r.2.2]
set_option maxRecDepth 100000 in
set_option maxHeartbeats 4000000 in
theorem near_any (v : Value) (l : List Sy) (a : Int) (w : World) (h : SyOf w v l) :
    Calls Tryz.prog 5 #[v, .int .i64 a] w fun e w' => e = .returned (nearV (nearR l a)) ∧ Below w.heap.size w w' := by
  obtain ⟨A, cap, rfl, h1, h2, h3⟩ := h
  obtain ⟨N, hN⟩ : ∃ n, l.length = n := ⟨_, rfl⟩
  have HN := Lib.hid hN
  have HC := Lib.hid h3
  rw [hN] at h1 HC ⊢
  unfold maxLen at h2
  clear h3 hN
  by_cases hl : 4096 < N
  · have HR : Hid (nearR l a = (⟨#[]⟩, 0, 3)) := by show _ = _; unfold nearR; rw [if_pos (by rw [HN.out]; exact hl)]
    go_enter Tryz.func5, Tryz.ntmps5
    go_wp2_with fail
    refine bodyPost_ret (v := .tuple #[.string ⟨#[]⟩, .int .i64 0, .int .i64 3]) (by simp [results, Tryz.results5, go_sem]) rfl ?_
    exact ⟨by rw [HR.out]; rfl, Below.refl _ _⟩
  · go_enter Tryz.func5, Tryz.ntmps5
    go_wp2_with fail
    go_loopw [7, 15] (fun bv iv W => ∃ i : Nat, i ≤ N ∧ iv = .int .i64 i ∧ bv = .int .i64 (nearB l a i) ∧ Hid (Below w.heap.size w W)) (fun bv iv _ => N - (intOf iv).toNat)
    case atStart => exact ⟨0, Nat.zero_le _, rfl, rfl, Lib.hid (Below.refl _ _)⟩
    case round =>
      obtain ⟨i, hi, rfl, rfl, HB⟩ := hrel
      by_cases hlt : i < N
      · as_aux_lemma =>
        obtain ⟨g, off, rfl, hg, hc⟩ := HC.out (by omega)
        have hb3 : Below w.heap.size w (wr.alloc (.cells #[.string (l.getD i default).nm, .int .i64 (l.getD i default).at_] 55)) := HB.out.alloc (by have := HB.out.size; omega) _
        have HB3 := Lib.hid hb3
        clear hb3
        have hw : ∀ k, k < N → wr.cell? ⟨g, off + k * 2, none⟩ = some (.string (l.getD k default).nm) ∧ wr.cell? ⟨g, off + k * 2 + 1, none⟩ = some (.int .i64 (l.getD k default).at_) := fun k hk => ⟨(HB.out.cell (p := ⟨g, off + k * 2, none⟩) hg).trans (hc k hk).1, (HB.out.cell (p := ⟨g, off + k * 2 + 1, none⟩) hg).trans (hc k hk).2⟩
        have hBl := nearB_lt l a i
        have hs := nearB_step l a i
        obtain ⟨B, hB⟩ : ∃ B, nearB l a i = B := ⟨_, rfl⟩
        rw [hB] at hBl hs ⊢
        have HS := Lib.hid hs
        obtain ⟨c0, c1⟩ := hw i hlt
        have e3 : (i : Int) < (N : Int) := by omega
        have e5 : (0 : Int) ≤ (i : Int) := by omega
        have e6 : IntKind.i64.wrap ((i : Int) + 1) = ((i + 1 : Nat) : Int) := by rw [IntWalk.i64_in _ (by omega)]; omega
        have HCC := Lib.hid hw
        obtain ⟨x, hx⟩ : ∃ x, (l.getD i default).at_ = x := ⟨_, rfl⟩
        obtain ⟨nm, hnm⟩ : ∃ x, (l.getD i default).nm = x := ⟨_, rfl⟩
        have HX := Lib.hid hx
        rw [hx] at c1 HB3
        rw [hnm] at c0 HB3
        clear hs hB hw hc HC hx hnm
        go_upto_region 7 with fail
        obtain ⟨W4, hW4⟩ : ∃ W4, wr.alloc (.cells #[.string nm, .int .i64 x] 55) = W4 := ⟨_, rfl⟩
        have d1 : W4.cell? ⟨wr.heap.size, 1, none⟩ = some (.int .i64 x) := by rw [← hW4, (Blk.new wr _ _).cell]; rfl
        have HAL : Hid (∀ {b : Addr} {u : Value}, wr.cell? b = some u → W4.cell? b = some u) := Lib.hid fun h => by rw [← hW4]; exact cell_al h _
        rw [hW4] at HB3 ⊢
        clear hW4 c0 c1
        by_cases t1 : x ≤ a
        · by_cases t2 : B < 0
          · have HN1 : Hid (nearB l a (i + 1) = (i : Int)) := by show _ = _; rw [HS.out]; unfold nearT; rw [HX.out]; simp [t1, t2]
            go_region
            go_wp2_with fail
            go_roundw
            case rel => exact ⟨i + 1, by omega, by go_num, by rw [HN1.out], Lib.hid HB3.out.drew⟩
            case measure => simp [intOf]; omega
          · obtain ⟨b, rfl⟩ : ∃ b : Nat, B = (b : Int) := ⟨B.toNat, by omega⟩
            obtain ⟨y, hy⟩ : ∃ y, (l.getD b default).at_ = y := ⟨_, rfl⟩
            have HY := Lib.hid hy
            have c2 := HAL.out (HCC.out b (by omega)).2
            rw [hy] at c2
            have b3 : (b : Int) < (N : Int) := by omega
            have b5 : (0 : Int) ≤ (b : Int) := by omega
            clear hy
            by_cases t3 : y < x
            · have HN1 : Hid (nearB l a (i + 1) = (i : Int)) := by show _ = _; rw [HS.out]; unfold nearT; rw [HX.out, Int.toNat_natCast, HY.out]; simp [t1, t3]; try omega
              go_region
              go_wp2_with fail
              go_roundw
              case rel => exact ⟨i + 1, by omega, by go_num, by rw [HN1.out], Lib.hid HB3.out.drew⟩
              case measure => simp [intOf]; omega
            · have HN1 : Hid (nearB l a (i + 1) = (b : Int)) := by show _ = _; rw [HS.out]; unfold nearT; rw [HX.out, Int.toNat_natCast, HY.out]; simp [t1, t3]; try omega
              go_region
              go_wp2_with fail
              go_roundw
              case rel => exact ⟨i + 1, by omega, by go_num, by rw [HN1.out], Lib.hid HB3.out.drew⟩
              case measure => simp [intOf]; omega
        · have HN1 : Hid (nearB l a (i + 1) = B) := by show _ = _; rw [HS.out]; unfold nearT; rw [HX.out]; simp [t1]
          go_region
          go_wp2_with fail
          go_roundw
          case rel => exact ⟨i + 1, by omega, by go_num, by rw [HN1.out], Lib.hid HB3.out.drew⟩
          case measure => simp [intOf]; omega
      · have hiN : i = N := by omega
        subst hiN
        have hR : nearR l a = if nearB l a i < 0 then (⟨#[]⟩, 0, 4) else ((l.getD (nearB l a i).toNat default).nm, wrap64 (a - (l.getD (nearB l a i).toNat default).at_), 0) := by unfold nearR; rw [HN.out, if_neg hl]
        have hBl := nearB_lt l a i
        obtain ⟨B, hB⟩ : ∃ B, nearB l a i = B := ⟨_, rfl⟩
        rw [hB] at hBl hR ⊢
        clear hB
        by_cases t2 : B < 0
        · rw [if_pos t2] at hR
          have HR := Lib.hid hR
          clear hR
          go_wp2_with fail
          refine bodyPost_ret (v := .tuple #[.string ⟨#[]⟩, .int .i64 0, .int .i64 4]) (by simp [results, Tryz.results5, go_sem]) rfl ?_
          exact ⟨by rw [HR.out]; rfl, HB.out⟩
        · rw [if_neg t2] at hR
          obtain ⟨b, rfl⟩ : ∃ b : Nat, B = (b : Int) := ⟨B.toNat, by omega⟩
          rw [Int.toNat_natCast] at hR
          obtain ⟨g, off, rfl, hg, hc⟩ := HC.out (by omega)
          have c0 := (HB.out.cell (p := ⟨g, off + b * 2, none⟩) hg).trans (hc b (by omega)).1
          have c1 := (HB.out.cell (p := ⟨g, off + b * 2 + 1, none⟩) hg).trans (hc b (by omega)).2
          have b3 : (b : Int) < (i : Int) := by omega
          have b5 : (0 : Int) ≤ (b : Int) := by omega
          have HR := Lib.hid hR
          obtain ⟨y, hy⟩ : ∃ y, (l.getD b default).at_ = y := ⟨_, rfl⟩
          obtain ⟨nm, hnm⟩ : ∃ y, (l.getD b default).nm = y := ⟨_, rfl⟩
          rw [hy] at c1 HR
          rw [hnm] at c0 HR
          clear hR hc HC hy hnm
          go_wp2_with fail
          go_region
          go_wp2_with fail
          refine bodyPost_ret (v := .tuple #[.string nm, .int .i64 (wrap64 (a - y)), .int .i64 0]) (by simp [results, Tryz.results5, go_sem]) rfl ?_
          exact ⟨by rw [HR.out]; rfl, HB.out.drew⟩
set_option maxRecDepth 100000 in
set_option maxHeartbeats 4000000 in
theorem near2_any (v : Value) (l : List Sy) (a : Int) (w : World) (h : SyOf w v l) :
    Calls Tryz.prog 6 #[v, .int .i64 a] w fun e w' => e = .returned (nearV (nearR l a)) ∧ Below w.heap.size w w' := by
  obtain ⟨A, cap, rfl, h1, h2, h3⟩ := h
  obtain ⟨N, hN⟩ : ∃ n, l.length = n := ⟨_, rfl⟩
  have HN := Lib.hid hN
  have HC := Lib.hid h3
  rw [hN] at h1 HC ⊢
  unfold maxLen at h2
  clear h3 hN
  by_cases hl : 4096 < N
  · have HR : Hid (nearR l a = (⟨#[]⟩, 0, 3)) := by show _ = _; unfold nearR; rw [if_pos (by rw [HN.out]; exact hl)]
    go_enter Tryz.func6, Tryz.ntmps6
    go_wp2_with fail
    refine bodyPost_ret (v := .tuple #[.string ⟨#[]⟩, .int .i64 0, .int .i64 3]) (by simp [results, Tryz.results6, go_sem]) rfl ?_
    exact ⟨by rw [HR.out]; rfl, Below.refl _ _⟩
  · go_enter Tryz.func6, Tryz.ntmps6
    go_wp2_with fail
    go_loopw [7, 8] (fun bv iv W => ∃ i : Nat, i ≤ N ∧ iv = .int .i64 i ∧ bv = .int .i64 (nearB l a i) ∧ Hid (Below w.heap.size w W)) (fun bv iv _ => N - (intOf iv).toNat)
    case atStart => exact ⟨0, Nat.zero_le _, rfl, rfl, Lib.hid (Below.refl _ _)⟩
    case round =>
      obtain ⟨i, hi, rfl, rfl, HB⟩ := hrel
      by_cases hlt : i < N
      · as_aux_lemma =>
        obtain ⟨g, off, rfl, hg, hc⟩ := HC.out (by omega)
        have hw : ∀ k, k < N → wr.cell? ⟨g, off + k * 2, none⟩ = some (.string (l.getD k default).nm) ∧ wr.cell? ⟨g, off + k * 2 + 1, none⟩ = some (.int .i64 (l.getD k default).at_) := fun k hk => ⟨(HB.out.cell (p := ⟨g, off + k * 2, none⟩) hg).trans (hc k hk).1, (HB.out.cell (p := ⟨g, off + k * 2 + 1, none⟩) hg).trans (hc k hk).2⟩
        have hBl := nearB_lt l a i
        have hs := nearB_step l a i
        obtain ⟨B, hB⟩ : ∃ B, nearB l a i = B := ⟨_, rfl⟩
        rw [hB] at hBl hs ⊢
        have HS := Lib.hid hs
        obtain ⟨c0, c1⟩ := hw i hlt
        have e3 : (i : Int) < (N : Int) := by omega
        have e5 : (0 : Int) ≤ (i : Int) := by omega
        have e6 : IntKind.i64.wrap ((i : Int) + 1) = ((i + 1 : Nat) : Int) := by rw [IntWalk.i64_in _ (by omega)]; omega
        have HCC := Lib.hid hw
        obtain ⟨x, hx⟩ : ∃ x, (l.getD i default).at_ = x := ⟨_, rfl⟩
        obtain ⟨nm, hnm⟩ : ∃ x, (l.getD i default).nm = x := ⟨_, rfl⟩
        have HX := Lib.hid hx
        rw [hx] at c1
        rw [hnm] at c0
        clear hs hB hw hc HC hx hnm
        go_upto_region 7 with fail
        clear c0
        by_cases t1 : x ≤ a
        · by_cases t2 : B < 0
          · have HN1 : Hid (nearB l a (i + 1) = (i : Int)) := by show _ = _; rw [HS.out]; unfold nearT; rw [HX.out]; simp [t1, t2]
            go_region
            go_wp2_with fail
            go_roundw
            case rel => exact ⟨i + 1, by omega, by go_num, by rw [HN1.out], Lib.hid HB.out.drew⟩
            case measure => simp [intOf]; omega
          · obtain ⟨b, rfl⟩ : ∃ b : Nat, B = (b : Int) := ⟨B.toNat, by omega⟩
            obtain ⟨y, hy⟩ : ∃ y, (l.getD b default).at_ = y := ⟨_, rfl⟩
            have HY := Lib.hid hy
            have c2 := (HCC.out b (by omega)).2
            rw [hy] at c2
            have b3 : (b : Int) < (N : Int) := by omega
            have b5 : (0 : Int) ≤ (b : Int) := by omega
            clear hy
            by_cases t3 : y < x
            · have HN1 : Hid (nearB l a (i + 1) = (i : Int)) := by show _ = _; rw [HS.out]; unfold nearT; rw [HX.out, Int.toNat_natCast, HY.out]; simp [t1, t3]; try omega
              go_region
              go_wp2_with fail
              go_roundw
              case rel => exact ⟨i + 1, by omega, by go_num, by rw [HN1.out], Lib.hid HB.out.drew⟩
              case measure => simp [intOf]; omega
            · have HN1 : Hid (nearB l a (i + 1) = (b : Int)) := by show _ = _; rw [HS.out]; unfold nearT; rw [HX.out, Int.toNat_natCast, HY.out]; simp [t1, t3]; try omega
              go_region
              go_wp2_with fail
              go_roundw
              case rel => exact ⟨i + 1, by omega, by go_num, by rw [HN1.out], Lib.hid HB.out.drew⟩
              case measure => simp [intOf]; omega
        · have HN1 : Hid (nearB l a (i + 1) = B) := by show _ = _; rw [HS.out]; unfold nearT; rw [HX.out]; simp [t1]
          go_region
          go_wp2_with fail
          go_roundw
          case rel => exact ⟨i + 1, by omega, by go_num, by rw [HN1.out], Lib.hid HB.out.drew⟩
          case measure => simp [intOf]; omega
      · have hiN : i = N := by omega
        subst hiN
        have hR : nearR l a = if nearB l a i < 0 then (⟨#[]⟩, 0, 4) else ((l.getD (nearB l a i).toNat default).nm, wrap64 (a - (l.getD (nearB l a i).toNat default).at_), 0) := by unfold nearR; rw [HN.out, if_neg hl]
        have hBl := nearB_lt l a i
        obtain ⟨B, hB⟩ : ∃ B, nearB l a i = B := ⟨_, rfl⟩
        rw [hB] at hBl hR ⊢
        clear hB
        by_cases t2 : B < 0
        · rw [if_pos t2] at hR
          have HR := Lib.hid hR
          clear hR
          go_wp2_with fail
          refine bodyPost_ret (v := .tuple #[.string ⟨#[]⟩, .int .i64 0, .int .i64 4]) (by simp [results, Tryz.results6, go_sem]) rfl ?_
          exact ⟨by rw [HR.out]; rfl, HB.out⟩
        · rw [if_neg t2] at hR
          obtain ⟨b, rfl⟩ : ∃ b : Nat, B = (b : Int) := ⟨B.toNat, by omega⟩
          rw [Int.toNat_natCast] at hR
          obtain ⟨g, off, rfl, hg, hc⟩ := HC.out (by omega)
          have c0 := (HB.out.cell (p := ⟨g, off + b * 2, none⟩) hg).trans (hc b (by omega)).1
          have c1 := (HB.out.cell (p := ⟨g, off + b * 2 + 1, none⟩) hg).trans (hc b (by omega)).2
          have b3 : (b : Int) < (i : Int) := by omega
          have b5 : (0 : Int) ≤ (b : Int) := by omega
          have HR := Lib.hid hR
          obtain ⟨y, hy⟩ : ∃ y, (l.getD b default).at_ = y := ⟨_, rfl⟩
          obtain ⟨nm, hnm⟩ : ∃ y, (l.getD b default).nm = y := ⟨_, rfl⟩
          rw [hy] at c1 HR
          rw [hnm] at c0 HR
          clear hR hc HC hy hnm
          go_wp2_with fail
          go_region
          go_wp2_with fail
          refine bodyPost_ret (v := .tuple #[.string nm, .int .i64 (wrap64 (a - y)), .int .i64 0]) (by simp [results, Tryz.results6, go_sem]) rfl ?_
          exact ⟨by rw [HR.out]; rfl, HB.out.drew⟩
end Go.Proofs.YteoglkofeogknaaGreatDoor
