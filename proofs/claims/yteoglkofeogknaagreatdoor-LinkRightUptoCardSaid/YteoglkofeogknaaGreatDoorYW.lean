/- Walks: the law's loop, the law's works. Conditions: what each states. -/
import Derived.Test.YteoglkofeogknaaGreatDoorLS
import Derived.Test.YteoglkofeogknaaGreatDoorYL
import Derived.Test.YteoglkofeogknaaGreatDoorYM
set_option linter.unusedVariables false
set_option linter.unusedSimpArgs false
namespace Go.Proofs.YteoglkofeogknaaGreatDoor
open Go.RowKit
theorem row_blk {W : World} {g t n : Nat} {cs : Array Value} {xs : List Value} (h : Blk W g t cs) (hx : cs.toList = xs) (hn : n ≤ maxLen) : RowOf W (.slice (some ⟨g, 0, none⟩) n n) n xs :=
  ⟨_, n, rfl, Nat.le_refl _, hn, fun _ => ⟨g, 0, rfl, h.lt, fun j u hj => by rw [Nat.zero_add, h.cell, ← hj, ← hx]; simp⟩⟩
set_option maxRecDepth 100000 in
set_option maxHeartbeats 1000000 in
theorem loop_any (w : World) : Calls Tryz.prog 13 #[] w fun e w' => ∃ z1 z2 z3 z4, e = .returned (.agg #[z1, z2, z3, z4]) ∧ ObAt w' z1 z2 z3 z4 loopO ∧ Below w.heap.size w w' := by
  obtain ⟨s, hs⟩ : ∃ s, w.heap.size = s := ⟨_, rfl⟩
  obtain ⟨W5, hW5⟩ : ∃ W5, (((((w.alloc (.cells #[.slice (some ⟨s + 1, 0, none⟩) 4 4, .slice (some ⟨s + 1 + 1, 0, none⟩) 4 4, .slice (some ⟨s + 1 + 1 + 1, 0, none⟩) 1 1, .slice (some ⟨s + 1 + 1 + 1 + 1, 0, none⟩) 2 2] 41)).alloc (.cells #[.int .u8 0, .int .u8 0, .int .u8 0, .int .u8 37] 5)).alloc (.cells #[.int .u8 0, .int .u8 0, .int .u8 0, .int .u8 0] 5)).alloc (.cells #[.string ⟨#[97]⟩, .int .i64 0, .int .i64 0, .bool true] 68)).alloc (.cells #[.int .i64 0, .int .i64 0, .int .i64 4, .int .i64 0, .string ⟨#[97]⟩, .int .i64 1, .int .i64 0, .int .i64 1, .int .i64 0, .string ⟨#[97]⟩] 51)) = W5 := ⟨_, rfl⟩
  have h0 : Blk W5 s 41 #[.slice (some ⟨s + 1, 0, none⟩) 4 4, .slice (some ⟨s + 1 + 1, 0, none⟩) 4 4, .slice (some ⟨s + 1 + 1 + 1, 0, none⟩) 1 1, .slice (some ⟨s + 1 + 1 + 1 + 1, 0, none⟩) 2 2] := by
    rw [← hW5, ← hs]
    exact ((((Blk.new w _ _).alloc _).alloc _).alloc _).alloc _
  have y0 := h0.cell 0
  have y1 := h0.cell 1
  have y2 := h0.cell 2
  have y3 := h0.cell 3
  have HY := Lib.hid (And.intro y0 (And.intro y1 (And.intro y2 y3)))
  clear h0 y0 y1 y2 y3
  have h1 : Blk W5 (s + 1) 5 #[.int .u8 0, .int .u8 0, .int .u8 0, .int .u8 37] := by
    rw [← hW5]
    exact (((blk_at (by simp [hs]) _ _).alloc _).alloc _).alloc _
  have h2 : Blk W5 (s + 1 + 1) 5 #[.int .u8 0, .int .u8 0, .int .u8 0, .int .u8 0] := by
    rw [← hW5]
    exact ((blk_at (by simp [hs]) _ _).alloc _).alloc _
  have h3 : Blk W5 (s + 1 + 1 + 1) 68 #[.string ⟨#[97]⟩, .int .i64 0, .int .i64 0, .bool true] := by
    rw [← hW5]
    exact (blk_at (by simp [hs]) _ _).alloc _
  have h4 : Blk W5 (s + 1 + 1 + 1 + 1) 51 #[.int .i64 0, .int .i64 0, .int .i64 4, .int .i64 0, .string ⟨#[97]⟩, .int .i64 1, .int .i64 0, .int .i64 1, .int .i64 0, .string ⟨#[97]⟩] := by
    rw [← hW5]
    exact blk_at (by simp [hs]) _ _
  have hb : Below w.heap.size w W5 := by
    rw [← hW5]
    exact (((((Below.refl _ _).alloc (Nat.le_refl _) _).alloc (by simp) _).alloc (by simp; omega) _).alloc (by simp; omega) _).alloc (by simp; omega) _
  have HO : Hid (ObAt W5 (.slice (some ⟨s + 1, 0, none⟩) 4 4) (.slice (some ⟨s + 1 + 1, 0, none⟩) 4 4) (.slice (some ⟨s + 1 + 1 + 1, 0, none⟩) 1 1) (.slice (some ⟨s + 1 + 1 + 1 + 1, 0, none⟩) 2 2) loopO) :=
    Lib.hid ⟨row_blk h1 rfl (by decide), row_blk h2 rfl (by decide), row_blk h3 rfl (by decide), row_blk h4 rfl (by decide)⟩
  have HB := Lib.hid hb
  have HS := Lib.hid hs
  have HW := Lib.hid hW5
  clear h1 h2 h3 h4 hb hW5 hs
  go_enter Tryz.func13, Tryz.ntmps13
  go_wp2_with fail
  rw [HS.out, HW.out]
  refine bodyPost_ret (v := .agg #[.slice (some ⟨s + 1, 0, none⟩) 4 4, .slice (some ⟨s + 1 + 1, 0, none⟩) 4 4, .slice (some ⟨s + 1 + 1 + 1, 0, none⟩) 1 1, .slice (some ⟨s + 1 + 1 + 1 + 1, 0, none⟩) 2 2]) ?_ rfl ?_
  · obtain ⟨y0, y1, y2, y3⟩ := HY.out
    simp [results, Tryz.results13, y0, y1, y2, y3, go_sem]
  · exact ⟨_, _, _, _, rfl, HO.out, by first | exact HB.out | (rw [← HS.out]; exact HB.out)⟩
end Go.Proofs.YteoglkofeogknaaGreatDoor
set_option linter.unusedVariables false
set_option linter.unusedSimpArgs false
namespace Go.Proofs.YteoglkofeogknaaGreatDoor
open Go.RowKit
theorem os_one {W : World} {g : Nat} {z1 z2 z3 z4 : Value} {o : Ob} (hb : Blk W g 41 #[z1, z2, z3, z4]) (ho : ObAt W z1 z2 z3 z4 o) : OsAt W (.slice (some ⟨g, 0, none⟩) 1 1) [o] := by
  refine ⟨[(z1, z2, z3, z4)], rfl, row_blk hb rfl (by decide), fun i hi => ?_⟩
  have hi0 : i = 0 := by simpa using hi
  subst hi0
  exact ho
theorem rs_one {W : World} {g : Nat} {r : Rng} (hb : Blk W g 48 (rngArr r)) (hn : r.nm.size ≤ maxLen) : RSlice W (.slice (some ⟨g, 0, none⟩) 1 1) [r] := by
  refine ⟨_, 1, rfl, Nat.le_refl _, by decide, fun x hx => by obtain rfl := List.mem_singleton.1 hx; exact hn, fun _ => ⟨g, 0, rfl, hb.lt, fun i hi j u hj => ?_⟩⟩
  have hi0 : i = 0 := by simpa using hi
  subst hi0
  rw [hb.cell]
  simpa using hj
theorem loop_small : (∀ o ∈ [loopO], NmOK o) ∧ (∀ k, k ≤ [loopO].length → SzOK (joinO ([loopO].take k))) := by
  refine ⟨fun o ho => ?_, fun k hk => ?_⟩
  · obtain rfl := List.mem_singleton.1 ho
    exact ⟨by decide, by decide⟩
  · match k, hk with
    | 0, _ => exact ⟨by decide, by decide, by decide, by decide⟩
    | 1, _ => exact ⟨by decide, by decide, by decide, by decide⟩
theorem loop_ok : (∀ s v, NF (jres [loopO]).1 (layR (jres [loopO]).1 stR) s = some v → ∃ x : Int, v = .int .i64 x ∧ OkY ⟨s, x⟩) ∧ (∃ s, (NF (jres [loopO]).1 (layR (jres [loopO]).1 stR) s).isSome = true) := by
  have hj : (jres [loopO]).1 = loopO := by rw [loop_join]
  rw [hj]
  refine ⟨fun s v hv => ?_, aS, by rw [loop_en]; rfl⟩
  unfold NF at hv
  rw [loop_nm] at hv
  obtain ⟨y, hy, rfl, rfl⟩ := putsF_val _ _ _ _ _ hv
  refine ⟨y.2, rfl, ?_⟩
  simp only [List.mem_cons, List.not_mem_nil, or_false] at hy
  rcases hy with rfl | rfl | rfl
  · exact Or.inl ⟨rfl, rfl⟩
  · exact Or.inr (Or.inl ⟨rfl, rfl⟩)
  · exact Or.inr (Or.inr ⟨rfl, by unfold endS stS; rfl⟩)
theorem loop_all (s : ByteArray) (h : s = aS ∨ s = stS ∨ s = endS stS) : (NF (jres [loopO]).1 (layR (jres [loopO]).1 stR) s).isSome = true := by
  have hj : (jres [loopO]).1 = loopO := by rw [loop_join]
  rw [hj]
  unfold NF
  rw [loop_nm]
  rcases h with rfl | rfl | rfl <;> decide
/-- The three, sorted. -/
theorem three_last {ys : List Sy} (h3 : ys.length ≤ 3) (hok : ∀ x ∈ ys, OkY x) (hall : ∀ s, (s = aS ∨ s = stS ∨ s = endS stS) → ∃ x ∈ ys, x.nm = s) (hup : Up keyY ys) : ys.length = 3 ∧ (ys.getD 2 default).nm = endS stS ∧ (ys.getD 2 default).at_ = 4240 := by
  have hl : names3.length ≤ (ys.map Sy.nm).length := nodup_le names3 (ys.map Sy.nm) (by decide) (fun s hs => by
    obtain ⟨x, hx, e⟩ := hall s (by
      simp only [names3, List.mem_cons, List.not_mem_nil, or_false] at hs
      rcases hs with rfl | rfl | rfl
      · exact Or.inl rfl
      · exact Or.inr (Or.inl rfl)
      · exact Or.inr (Or.inr rfl))
    exact List.mem_map.2 ⟨x, hx, e⟩)
  rw [List.length_map] at hl
  have hl3 : ys.length = 3 := by have : names3.length = 3 := rfl; omega
  match ys, hl3 with
  | [a, b, c], _ =>
    refine ⟨rfl, ?_⟩
    show c.nm = _ ∧ c.at_ = _
    obtain ⟨x, hx, hxn⟩ := hall (endS stS) (Or.inr (Or.inr rfl))
    have hx4 : x.at_ = 4240 := by
      rcases hok x hx with ⟨h1, h2⟩ | ⟨h1, h2⟩ | ⟨h1, h2⟩
      · rw [hxn] at h2; exact absurd h2 (by decide)
      · rw [hxn] at h2; exact absurd h2 (by decide)
      · exact h1
    have hle : x.at_ ≤ c.at_ := by
      unfold Up at hup
      simp only [List.pairwise_cons, List.mem_cons, List.not_mem_nil, or_false] at hup
      simp only [List.mem_cons, List.not_mem_nil, or_false] at hx
      rcases hx with rfl | rfl | rfl
      · exact hup.1 c (Or.inr rfl)
      · exact hup.2.1 c rfl
      · exact Int.le_refl _
    rcases hok c (by simp) with ⟨h1, h2⟩ | ⟨h1, h2⟩ | ⟨h1, h2⟩
    · omega
    · omega
    · exact ⟨h2, h1⟩
set_option maxRecDepth 100000 in
set_option maxHeartbeats 4000000 in
theorem works_any (w : World) (ho : OpsAt w) (h0 : 0 < w.heap.size) : Calls Tryz.prog 7 #[] w fun e w' => e = .returned (.bool true) ∧ Below w.heap.size w w' := by
  obtain ⟨s, hs⟩ : ∃ s, w.heap.size = s := ⟨_, rfl⟩
  obtain ⟨W1, hW1⟩ : ∃ W1, w.alloc (.cells #[.string ⟨#[115, 116, 97, 99, 107]⟩, .int .i64 0, .int .i64 100, .bool true, .bool false] 48) = W1 := ⟨_, rfl⟩
  have hb1 : Below w.heap.size w W1 := by rw [← hW1]; exact (Below.refl _ _).alloc (Nat.le_refl _) _
  have HR1 : Hid (Blk W1 s 48 (rngArr ⟨stS, 0, 100, true, false⟩)) := by rw [← hW1, ← hs]; exact Lib.hid (Blk.new w _ _)
  have HB1 := Lib.hid hb1
  have HO := Lib.hid ho
  have HS := Lib.hid hs
  clear hb1 ho
  go_enter Tryz.func7, Tryz.ntmps7
  go_wp2_with fail
  clear hW1 hs
  refine (loop_any _).mono ?_
  rintro e w2 ⟨z1, z2, z3, z4, rfl, hob, hb2⟩
  obtain ⟨A1, c1, rfl, _⟩ := hob.tx.form
  obtain ⟨A2, c2, rfl, _⟩ := hob.dt.form
  obtain ⟨A3, c3, rfl, _, _⟩ := hob.lb.form
  obtain ⟨A4, c4, rfl, _, _⟩ := hob.rl.form
  obtain ⟨s2, hs2⟩ : ∃ s2, w2.heap.size = s2 := ⟨_, rfl⟩
  obtain ⟨W3, hW3⟩ : ∃ W3, w2.alloc (.cells #[.slice A1 loopO.tx.length c1, .slice A2 loopO.dt.length c2, .slice A3 loopO.lb.length c3, .slice A4 loopO.rl.length c4] 41) = W3 := ⟨_, rfl⟩
  have hb3 : Below w2.heap.size w2 W3 := by rw [← hW3]; exact (Below.refl _ _).alloc (Nat.le_refl _) _
  have hO3 : OsAt W3 (.slice (some ⟨s2, 0, none⟩) 1 1) [loopO] := os_one (by rw [← hW3, ← hs2]; exact Blk.new w2 _ _) (hob.below hb3)
  have hb13 : Below W1.heap.size W1 W3 := hb2.trans (hb3.mono hb2.size)
  have hR3 : RSlice W3 (.slice (some ⟨s, 0, none⟩) 1 1) stR := (rs_one HR1.out (by decide)).below hb13
  have hb03 : Below w.heap.size w W3 := HB1.out.trans (hb13.mono HB1.out.size)
  have HLK := Lib.hid (link_any ⟨#[97]⟩ _ _ stR [loopO] W3 hR3 hO3 (HO.out.below h0 hb03) (Nat.lt_of_lt_of_le h0 hb03.size) loop_small.1 (by decide) loop_small.2 (by decide) (by decide))
  have HB3 := Lib.hid hb03
  clear hb2 hob hb3 hO3 hb13 hR3 hb03
  go_wp2_with fail
  clear hW3 hs2
  refine HLK.out.mono ?_
  rintro e w4 ⟨im, rfl, hb4, _, him⟩
  rw [show lkF ⟨#[97]⟩ stR [loopO] = (0, 0) from loop_lk] at him ⊢
  obtain ⟨vR, vF, en, rfl, hR, hF, hen, _⟩ := him rfl
  have hj : (jres [loopO]).1 = loopO := by rw [loop_join]
  rw [hj] at hR hen
  rw [show lkP stR [loopO] = _ from loop_pl] at hF
  rw [show NF loopO (layR loopO stR) ⟨#[97]⟩ = some (.int .i64 4096) from loop_en] at hen
  have hen : en = 4096 := by injection hen with _ hen; exact hen.symm
  subst hen
  have HR4 := Lib.hid hR
  have HF4 := Lib.hid hF
  have HB4 := Lib.hid (HB3.out.trans (hb4.mono HB3.out.size))
  obtain ⟨AR, cR, rfl, _, hcR, _⟩ := hR
  obtain ⟨AF, cF, rfl, _, hcF, _⟩ := hF
  clear hb4 him hj HLK
  dsimp only
  obtain ⟨o, ho4⟩ : ∃ o, w4.heap.size = o := ⟨_, rfl⟩
  obtain ⟨NR, hNR⟩ : ∃ n, (layR loopO stR).length = n := ⟨_, rfl⟩
  have HNR : Hid (NR = 3) := Lib.hid (by rw [← hNR]; rfl)
  rw [hNR] at HR4 ⊢
  go_upto_region 2 with fail
  obtain ⟨W5, hW5⟩ : ∃ W5, (w4.alloc (.cells #[.slice AR NR cR, .slice AF 2 cF, .int .i64 4096] 32)).alloc (.cells #[.int .i64 0, .int .i64 0] 34) = W5 := ⟨_, rfl⟩
  have hb5 : Below w4.heap.size w4 W5 := by rw [← hW5]; exact ((Below.refl _ _).alloc (Nat.le_refl _) _).alloc (by simp) _
  have HX5 : Hid (Blk W5 o 32 #[.slice AR NR cR, .slice AF 2 cF, .int .i64 4096]) := by rw [← hW5, ← ho4]; exact Lib.hid ((Blk.new w4 _ _).alloc _)
  have HY5 : Hid (Blk W5 (o + 1) 34 #[.int .i64 0, .int .i64 0]) := by rw [← hW5, ← ho4]; exact Lib.hid (blk_at (by simp) _ _)
  have HB5 := Lib.hid (HB4.out.trans (hb5.mono HB4.out.size))
  have HR5 := Lib.hid (HR4.out.below hb5)
  have HF5 := Lib.hid (HF4.out.below hb5)
  have hst5 : w4.heap.size + 1 = o + 1 := by rw [ho4]
  try rw [hW5]
  try rw [ho4]
  clear hb5 hW5 hst5 ho4
  obtain ⟨s5, hs5⟩ : ∃ s5, W5.heap.size = s5 := ⟨_, rfl⟩
  obtain ⟨W6, hW6⟩ : ∃ W6, W5.alloc (.cells #[.string ⟨#[115, 116, 97, 99, 107]⟩, .int .i64 0, .int .i64 100, .bool true, .bool false] 48) = W6 := ⟨_, rfl⟩
  have hb6 : Below W5.heap.size W5 W6 := by rw [← hW6]; exact (Below.refl _ _).alloc (Nat.le_refl _) _
  have HR6 : Hid (Blk W6 s5 48 (rngArr ⟨stS, 0, 100, true, false⟩)) := by rw [← hW6, ← hs5]; exact Lib.hid (Blk.new W5 _ _)
  have HB6 := Lib.hid hb6
  clear hb6
  go_wp2_with fail
  clear hW6 hs5
  refine (loop_any _).mono ?_
  rintro e w7 ⟨y1, y2, y3, y4, rfl, hob, hb7⟩
  obtain ⟨B1, d1, rfl, _⟩ := hob.tx.form
  obtain ⟨B2, d2, rfl, _⟩ := hob.dt.form
  obtain ⟨B3, d3, rfl, _, _⟩ := hob.lb.form
  obtain ⟨B4, d4, rfl, _, _⟩ := hob.rl.form
  obtain ⟨s7, hs7⟩ : ∃ s7, w7.heap.size = s7 := ⟨_, rfl⟩
  obtain ⟨W8, hW8⟩ : ∃ W8, w7.alloc (.cells #[.slice B1 loopO.tx.length d1, .slice B2 loopO.dt.length d2, .slice B3 loopO.lb.length d3, .slice B4 loopO.rl.length d4] 41) = W8 := ⟨_, rfl⟩
  have hb8 : Below w7.heap.size w7 W8 := by rw [← hW8]; exact (Below.refl _ _).alloc (Nat.le_refl _) _
  have hO8 : OsAt W8 (.slice (some ⟨s7, 0, none⟩) 1 1) [loopO] := os_one (by rw [← hW8, ← hs7]; exact Blk.new w7 _ _) (hob.below hb8)
  have hb68 : Below W6.heap.size W6 W8 := hb7.trans (hb8.mono hb7.size)
  have hR8 : RSlice W8 (.slice (some ⟨s5, 0, none⟩) 1 1) stR := (rs_one HR6.out (by decide)).below hb68
  have hb58 : Below W5.heap.size W5 W8 := HB6.out.trans (hb68.mono HB6.out.size)
  have hb08 : Below w.heap.size w W8 := HB5.out.trans (hb58.mono HB5.out.size)
  have HSM := Lib.hid (symbols_any _ _ stR [loopO] W8 hR8 hO8 (HO.out.below h0 hb08) (Nat.lt_of_lt_of_le h0 hb08.size) loop_small.1 (by decide) loop_small.2 (by decide) loop_st loop_ok.1 loop_ok.2)
  have HB8 := Lib.hid hb08
  have HX8 := Lib.hid (HX5.out.below hb58 HX5.out.lt)
  have HY8 := Lib.hid (HY5.out.below hb58 HY5.out.lt)
  have HR8 := Lib.hid (HR5.out.below hb58)
  have HF8 := Lib.hid (HF5.out.below hb58)
  clear hb7 hob hb8 hO8 hb68 hR8 hb58 hb08
  go_wp2_with fail
  clear hW8 hs7
  refine HSM.out.mono ?_
  rintro e w9 ⟨vS, ys, rfl, hb9, hsy, h3, hok, hall, hup⟩
  have HT := Lib.hid (three_last h3 hok (fun s hs => hall s (loop_all s hs)) hup)
  have HSY := Lib.hid hsy
  obtain ⟨AS, cS, rfl, _, hcS, _⟩ := hsy
  have HB9 := Lib.hid (HB8.out.trans (hb9.mono HB8.out.size))
  have HX9 := Lib.hid (HX8.out.below hb9 HX8.out.lt)
  have HY9 := Lib.hid (HY8.out.below hb9 HY8.out.lt)
  have HR9 := Lib.hid (HR8.out.below hb9)
  have HF9 := Lib.hid (HF8.out.below hb9)
  clear h3 hok hall hup hb9 HSM
  obtain ⟨NS, hNS⟩ : ∃ n, ys.length = n := ⟨_, rfl⟩
  rw [hNS]
  go_upto_region 3 with fail
  obtain ⟨q, hq⟩ : ∃ q, w9.heap.size = q := ⟨_, rfl⟩
  obtain ⟨W10, hW10⟩ : ∃ W10, w9.alloc (.cells #[.int .i64 0, .int .i64 0] 34) = W10 := ⟨_, rfl⟩
  have hb10 : Below w9.heap.size w9 W10 := by rw [← hW10]; exact (Below.refl _ _).alloc (Nat.le_refl _) _
  have hG10 : Blk W10 q 34 #[.int .i64 0, .int .i64 0] := by rw [← hW10, ← hq]; exact Blk.new w9 _ _
  have hX10 := HX9.out.below hb10 HX9.out.lt
  have hY10 := HY9.out.below hb10 HY9.out.lt
  have HR10 := Lib.hid (HR9.out.below hb10)
  have HF10 := Lib.hid (HF9.out.below hb10)
  have HB10 := Lib.hid (HB9.out.trans (hb10.mono HB9.out.size))
  have hsy := HSY.out
  obtain ⟨AS', cS', e1, _, _, hsc⟩ := hsy
  injection e1 with e1 e2 e3
  obtain ⟨gS, oS, e4, hgS, hsc⟩ := hsc (by rw [HT.out.1]; decide)
  rw [e4] at e1
  subst e1
  clear e2 e3 e4
  have hk2 := hsc 2 (by rw [HT.out.1]; decide)
  rw [HT.out.2.1, HT.out.2.2] at hk2
  have HS4 : Hid (w9.cell? ⟨gS, oS + 4, none⟩ = some (.string (endS stS)) ∧ w9.cell? ⟨gS, oS + 4 + 1, none⟩ = some (.int .i64 4240) ∧ gS < w9.heap.size) := Lib.hid ⟨hk2.1, hk2.2, hgS⟩
  have hN3 : NS = 3 := by rw [← hNS]; exact HT.out.1
  subst hN3
  obtain ⟨AR', cR', e1, _, _, _, hrc⟩ := HR10.out
  injection e1 with e1 e2 e3
  obtain ⟨gR, oR, e4, hgR, hrc⟩ := hrc (by intro e; have h := congrArg List.length e; exact absurd h (by decide))
  rw [e4] at e1
  subst e1
  have hNR3 := HNR.out
  subst hNR3
  clear e2 e3 e4
  have hr5 := hrc.five (i := 2) (by decide)
  have hr2 : (layR loopO stR)[2] = ⟨stS, 4128, 112, true, false⟩ := by rfl
  rw [hr2] at hr5
  obtain ⟨r0, r1, r2, r3, r4⟩ := hr5
  obtain ⟨AF', cF', e1, _, _, hfc⟩ := HF10.out
  injection e1 with e1 e2 e3
  obtain ⟨gF, oF, e4, hgF, hfc⟩ := hfc (by decide)
  rw [e4] at e1
  subst e1
  clear e2 e3 e4
  obtain ⟨_, b0, f01, hb0⟩ := hfc 0 (by decide)
  obtain ⟨_, b1, f11, hb1⟩ := hfc 1 (by decide)
  obtain ⟨P0, k0, rfl, _⟩ := Bys.form hb0
  obtain ⟨P1, k1, rfl, _⟩ := Bys.form hb1
  have HB0 := Lib.hid hb0
  have HB1' := Lib.hid hb1
  have HF1C : Hid (W10.cell? ⟨gF, oF + 2 + 1, none⟩ = some (.slice P1 4 k1) ∧ gF < W10.heap.size) := Lib.hid ⟨f11, hgF⟩
  have f01' : W10.cell? ⟨gF, oF + 1, none⟩ = some (.slice P0 4 k0) := f01
  have x0 : W10.cell? ⟨o, 0, none⟩ = some (.slice (some ⟨gR, oR, none⟩) 3 cR) := by rw [hX10.cell]; rfl
  have x1 : W10.cell? ⟨o, 1, none⟩ = some (.slice (some ⟨gF, oF, none⟩) 2 cF) := by rw [hX10.cell]; rfl
  have x2 : W10.cell? ⟨o, 2, none⟩ = some (.int .i64 4096) := by rw [hX10.cell]; rfl
  have y0 : W10.cell? ⟨o + 1, 0, none⟩ = some (.int .i64 0) := by rw [hY10.cell]; rfl
  have y1 : W10.cell? ⟨o + 1, 1, none⟩ = some (.int .i64 0) := by rw [hY10.cell]; rfl
  have g0 : W10.cell? ⟨q, 0, none⟩ = some (.int .i64 0) := by rw [hG10.cell]; rfl
  have g1 : W10.cell? ⟨q, 1, none⟩ = some (.int .i64 0) := by rw [hG10.cell]; rfl
  have HX10 := Lib.hid hX10
  have HB90 := Lib.hid hb10
  have s0 : W10.cell? ⟨gR, oR + 10, none⟩ = some (.string stS) := r0
  have s1 : W10.cell? ⟨gR, oR + 10 + 1, none⟩ = some (.int .i64 4128) := r1
  have s2' : W10.cell? ⟨gR, oR + 10 + 2, none⟩ = some (.int .i64 112) := r2
  have s3 : W10.cell? ⟨gR, oR + 10 + 3, none⟩ = some (.bool true) := r3
  have s4 : W10.cell? ⟨gR, oR + 10 + 4, none⟩ = some (.bool false) := r4
  try rw [hW10]
  try rw [hq]
  clear hW10 hq hX10 hY10 hG10 hb10 hk2 hsc hrc hfc hb0 hb1 f01 f11 r0 r1 r2 r3 r4 hNS
  unfold stS at s0
  go_wp2_with fail
  have hz1 : Below W10.heap.size W10 (W10.alloc (.cells #[.int .u8 255, .int .u8 255, .int .u8 255, .int .u8 37] 5)) := (Below.refl _ _).alloc (Nat.le_refl _) _
  refine (same_any _ _ [255, 255, 255, 37] [255, 255, 255, 37] _ (RowOf.below HB0.out hz1) (row_blk (Blk.new W10 _ _) rfl (by decide))).mono ?_
  rintro e w12 ⟨rfl, hb12⟩
  rw [show decide (([255, 255, 255, 37] : List UInt8) = [255, 255, 255, 37]) = true from by decide]
  have hb1012 : Below W10.heap.size W10 w12 := hz1.trans (hb12.mono hz1.size)
  have HB12 := Lib.hid hb1012
  have hX12 := HX10.out.below hb1012 HX10.out.lt
  have HX12 := Lib.hid hX12
  have x1' : w12.cell? ⟨o, 1, none⟩ = some (.slice (some ⟨gF, oF, none⟩) 2 cF) := by rw [hX12.cell]; rfl
  have f2' : w12.cell? ⟨gF, oF + 2 + 1, none⟩ = some (.slice P1 4 k1) := (hb1012.cell (p := ⟨gF, oF + 2 + 1, none⟩) HF1C.out.2).trans HF1C.out.1
  clear hz1 hb12 hb1012 hX12 x0 x1 x2 y0 y1 g0 g1 s0 s1 s2' s3 s4 f01'
  go_wp2_with fail
  have hz2 : Below w12.heap.size w12 (w12.alloc (.cells #[.int .u8 0, .int .u8 16, .int .u8 0, .int .u8 0] 5)) := (Below.refl _ _).alloc (Nat.le_refl _) _
  refine (same_any _ _ [0, 16, 0, 0] [0, 16, 0, 0] _ (RowOf.below (RowOf.below HB1'.out HB12.out) hz2) (row_blk (Blk.new w12 _ _) rfl (by decide))).mono ?_
  rintro e w14 ⟨rfl, hb14⟩
  rw [show decide (([0, 16, 0, 0] : List UInt8) = [0, 16, 0, 0]) = true from by decide]
  have hb914 : Below w9.heap.size w9 w14 := HB90.out.trans ((HB12.out.trans ((hz2.trans (hb14.mono hz2.size)).mono HB12.out.size)).mono HB90.out.size)
  have HBF := Lib.hid (HB9.out.trans (hb914.mono HB9.out.size))
  obtain ⟨q1, q2, q3⟩ := HS4.out
  have t0 : w14.cell? ⟨gS, oS + 4, none⟩ = some (.string (endS stS)) := (hb914.cell (p := ⟨gS, oS + 4, none⟩) q3).trans q1
  have t1 : w14.cell? ⟨gS, oS + 4 + 1, none⟩ = some (.int .i64 4240) := (hb914.cell (p := ⟨gS, oS + 4 + 1, none⟩) q3).trans q2
  rw [show endS stS = ⟨#[115, 116, 97, 99, 107, 46, 101, 110, 100]⟩ from by rfl] at t0
  clear hz2 hb14 hb914 q1 q2 q3 x1' f2'
  go_wp2_with fail
  go_ret
  refine ⟨by rfl, ?_⟩
  first | exact HBF.out | (rw [← HS.out]; exact HBF.out)
end Go.Proofs.YteoglkofeogknaaGreatDoor
