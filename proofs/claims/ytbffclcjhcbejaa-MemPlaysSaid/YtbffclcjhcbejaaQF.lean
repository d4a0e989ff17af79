/- Walk: the document's New. Conditions: names within the model's lengths. -/
import Derived.Test.YtbffclcjhcbejaaQD
import Derived.Test.YtbffclcjhcbejaaQE
import Derived.Maps.AppendAt
namespace Go.Proofs.Ytbffclcjhcbejaa
open Go.RowKit
theorem info30f : (Try.prog.info? 30).map (fun i => (i.zero, i.size, i.bytes)) = some (some (.agg #[.string ⟨#[]⟩, .int .i64 0, .int .i64 0, .bool false, .bool false]), 5, 40) := by kernel_rfl
theorem info33f : (Try.prog.info? 33).map (fun i => (i.zero, i.size, i.bytes)) = some (some (.slice none 0 0), 1, 24) := by kernel_rfl
theorem rng_len (rs : List Rng) : (rs.flatMap Rng.cells).length = rs.length * 5 := by
  induction rs with
  | nil => rfl
  | cons r rs ih => rw [List.flatMap_cons, List.length_append, ih, List.length_cons]; simp [Rng.cells]; omega
theorem rng_one (rs : List Rng) : ∀ u ∈ rs.flatMap Rng.cells, u.oneCell' = true := by
  intro u hu
  obtain ⟨r, _, hu⟩ := List.mem_flatMap.1 hu
  simp [Rng.cells] at hu
  rcases hu with rfl | rfl | rfl | rfl | rfl <;> rfl
theorem rng_at {rs : List Rng} {j : Nat} {u : Value} (h : (rs.flatMap Rng.cells)[j]? = some u) : ∃ (i : Nat) (hi : i < rs.length) (q : Nat), j = i * 5 + q ∧ (rngArr rs[i])[q]? = some u := by
  have hl : j < rs.length * 5 := by
    rcases Nat.lt_or_ge j (rs.length * 5) with h' | h'
    · exact h'
    · rw [List.getElem?_eq_none (by rw [rng_len]; exact h')] at h; cases h
  have hi : j / 5 < rs.length := by omega
  refine ⟨j / 5, hi, j % 5, by omega, ?_⟩
  have e : j = j / 5 * 5 + j % 5 := by omega
  rw [e, flatMap_at Rng.cells 5 (fun _ => rfl) rs (j / 5) hi (j % 5) (by omega)] at h
  simpa [rngArr, Rng.cells] using h
theorem rng_cell {w : World} {g off : Nat} {rs : List Rng} (h : RCells w g off rs) : ∀ j u, (rs.flatMap Rng.cells)[j]? = some u → w.cell? ((⟨g, off, none⟩ : Addr).add j) = some u := by
  intro j u hj
  obtain ⟨i, hi, q, rfl, hq⟩ := rng_at hj
  rw [addr_add, ← Nat.add_assoc]
  exact h i hi q u hq
theorem owns_rslice {w : World} {B : Nat} {v : Value} {rs : List Rng} (h : w.ownsRow B 30 5 v rs.length (rs.flatMap Rng.cells)) (hn : ∀ r ∈ rs, r.nm.size ≤ maxLen) : RSlice w v rs := by
  have hh := h
  rcases h.2 with ⟨rfl, h0⟩ | ⟨g, cap, cur, rfl, _, hb, h1, h2, _⟩
  · exact ⟨none, 0, by rw [h0], by omega, by decide, hn, fun hne => absurd (List.length_eq_zero_iff.1 h0) hne⟩
  · refine ⟨_, cap, rfl, h1, h2, hn, fun hne => ⟨g, 0, rfl, Blk.lt (t := 30) hb, fun i hi j u hj => ?_⟩⟩
    have hj5 : j < 5 := by
      rcases Nat.lt_or_ge j 5 with h | h
      · exact h
      · rw [Array.getElem?_eq_none (by simpa [rngArr] using h)] at hj; cases hj
    have := hh.cells (g := g) rfl (i * 5 + j) u (by rw [flatMap_at Rng.cells 5 (fun _ => rfl) rs i hi j hj5]; simpa [rngArr, Rng.cells] using hj)
    rwa [addr_add, ← Nat.add_assoc] at this
theorem append_none30 (w : World) (g c : Nat) : (Builtin.append_ #[22, 22] 22 #[.slice (some ⟨g, 0, none⟩) 0 0, .slice none 0 c]).run Try.prog w = .ok (.slice (some ⟨g, 0, none⟩) 0 0) w := by
  obtain ⟨i0, hi, hz0, hz1, hz2⟩ := info_parts info30f
  simp [Builtin.append_, run_underlying Try.underlying22, sizeOf, typeInfo, hi, Builtin.lenOf, Builtin.firstCells, storeCells]
/-- 'append([]Range{}, l...)'. -/
theorem copy_ranges {w : World} {v : Value} {rs : List Rng} (h : RSlice w v rs) (hl : rs.length * 40 ≤ 140737488351232) :
    ∃ A cap w2, (Builtin.append_ #[22, 22] 22 #[.slice (some ⟨w.heap.size, 0, none⟩) 0 0, v]).run Try.prog (w.alloc (.cells #[] 30)) = .ok (.slice A rs.length cap) w2 ∧ rs.length ≤ cap ∧ cap ≤ maxLen ∧
      w2.ownsRow w.heap.size 30 5 (.slice A rs.length cap) rs.length (rs.flatMap Rng.cells) ∧ Below w.heap.size w w2 := by
  obtain ⟨A, cap, rfl, h1, h2, h3, h4⟩ := h
  have hown : (w.alloc (.cells #[] 30)).ownsRow w.heap.size 30 5 (.slice (some ⟨w.heap.size, 0, none⟩) 0 0) 0 [] :=
    ⟨rfl, Or.inr ⟨w.heap.size, 0, #[], rfl, Nat.le_refl _, heap_alloc_new w _, Nat.le_refl _, Nat.zero_le _, rfl, rfl⟩⟩
  cases A with
  | none =>
    obtain rfl : rs = [] := by
      by_cases hx : rs = []
      · exact hx
      · obtain ⟨b, off, e, _⟩ := h4 hx
        cases e
    exact ⟨_, _, _, append_none30 (w.alloc (.cells #[] 30)) w.heap.size cap, Nat.le_refl _, by decide, hown, (Below.refl _ _).alloc (Nat.le_refl _) _⟩
  | some ad =>
    obtain ⟨i0, hi, hz0, hz1, hz2⟩ := info_parts info30f
    have hc : ∀ j u, (rs.flatMap Rng.cells)[j]? = some u → w.cell? (ad.add j) = some u := fun j u hj => by
      have hne : rs ≠ [] := by rintro rfl; simp at hj
      obtain ⟨b, off, e, _, hcc⟩ := h4 hne
      cases e
      exact rng_cell hcc j u hj
    obtain ⟨v', w2, hap, ho, hg, hnil⟩ := run_append_own (P := Try.prog) (w.alloc (.cells #[] 30)) w.heap.size 22 22 30 i0 (.agg #[.string ⟨#[]⟩, .int .i64 0, .int .i64 0, .bool false, .bool false]) 5 40 Try.underlying22 hi hz0 hz1 hz2 rfl (by decide) _ 0 [] hown ad rs.length cap (rs.flatMap Rng.cells) (rng_len rs)
      (fun j u hj => by have := hc j u hj; rw [World.cell?_alloc_lt _ _ _ (cell_lt this)]; exact this) (rng_one rs) (by unfold maxLen; omega) (by omega) (by simp)
    rw [Nat.zero_add, List.nil_append] at ho
    have hbel : Below w.heap.size w w2 := ((Below.refl _ _).alloc (Nat.le_refl _) _).grown hg (by simp) (fun k hk => by simp [Value.ownBlock] at hk; omega)
    obtain ⟨A', cap', rfl, hc1, hc2⟩ := slice_form ho
    exact ⟨A', cap', w2, hap, hc1, hc2, ho, hbel⟩
theorem rcheck_long (A : Option Addr) (n cap : Nat) (rs : List Rng) (w : World) (hn : 16 < n) (hcap : n ≤ cap) (hmax : cap ≤ maxLen) (hr : rs.length = n) :
    Calls Try.prog 15 #[.slice A n cap] w fun e w' => e = .returned (.int .i64 (chkR rs)) ∧ Below w.heap.size w w' := by
  have hc : chkR rs = 3 := by unfold chkR; rw [if_pos (by omega)]
  have HC := Lib.hid hc
  clear hc hr
  unfold maxLen at hmax
  go_enter Try.func15, Try.ntmps15
  go_wp2_with fail
  go_ret
  exact ⟨by rw [HC.out]; rfl, Below.refl _ _⟩
set_option maxRecDepth 100000 in
theorem rcheck_none (A : Option Addr) (cap : Nat) (w : World) : Calls Try.prog 15 #[.slice A 0 cap] w fun e w' => e = .returned (.int .i64 (chkR [])) ∧ Below w.heap.size w w' := by
  have hc : chkR [] = 0 := rfl
  have HC := Lib.hid hc
  clear hc
  go_enter Try.func15, Try.ntmps15
  go_wp2_with fail
  refine wp_loop_rounds 1 ?_
  rw [rounds_succ]
  go_wp2_with fail
  go_ret
  exact ⟨rfl, Below.refl _ _⟩
theorem rcheck_any (v : Value) (rs : List Rng) (w : World) (h : RSlice w v rs) : Calls Try.prog 15 #[v] w fun e w' => e = .returned (.int .i64 (chkR rs)) ∧ Below w.heap.size w w' := by
  obtain ⟨A, cap, rfl, h1, h2, h3, h4⟩ := h
  by_cases hne : rs = []
  · subst hne; exact rcheck_none A cap w
  · by_cases hl : 16 < rs.length
    · exact rcheck_long A rs.length cap rs w hl h1 h2 rfl
    · obtain ⟨g, off, rfl, hg, hc⟩ := h4 hne
      exact rcheck_some g off cap rs w (by omega) h1 h2 hg hc h3
/-- The world in which a row of slices grows: a row of noughts more, and the one new slice. -/
def pushX (wr : World) (z : Nat) : World := (wr.drew.alloc (.cells (madeCells #[.int .u8 0] z) 5)).alloc (.cells #[.slice (some ⟨wr.heap.size, 0, none⟩) z z] 33)
def pushV (wr : World) (z : Nat) : Value := .slice (some ⟨wr.heap.size, 0, none⟩) z z
theorem pushX_below (wr : World) (z : Nat) : Below wr.heap.size wr (pushX wr z) := (((Below.refl _ wr).drew).alloc (Nat.le_refl _) _).alloc (by simp) _
theorem pushX_row (wr : World) (z : Nat) : Blk (pushX wr z) wr.heap.size 5 (madeCells #[.int .u8 0] z) := (blk_at (w := wr.drew) rfl 5 _).alloc _
theorem pushX_size (wr : World) (z : Nat) : (pushX wr z).heap.size = wr.heap.size + 2 := by unfold pushX; simp
theorem brow_zero {w : World} {g z : Nat} (h : Blk w g 5 (madeCells #[.int .u8 0] z)) (hz : z ≤ 16777216) : BRow w (.slice (some ⟨g, 0, none⟩) z z) (List.replicate z 0) := by
  refine ⟨_, z, by rw [List.length_replicate], by rw [List.length_replicate]; exact Nat.le_refl _, by unfold maxLen; omega, fun _ => ⟨_, _, rfl, h, ?_, ?_⟩⟩
  · rw [← Array.length_toList, made_list, List.length_replicate]
  · rw [made_list, List.length_replicate, List.take_of_length_le (by simp), List.map_replicate]
theorem push33 {wr : World} {B n z : Nat} {v : Value} {xs : List Value} (ho : wr.ownsRow B 33 1 v n xs) (hB : B ≤ wr.heap.size) (hn : n ≤ 16) :
    ∃ g cap w2, (Builtin.append_ #[81, 81] 81 #[v, .slice (some ⟨wr.heap.size + 1, 0, none⟩) 1 1]).run Try.prog (pushX wr z) = .ok (.slice (some ⟨g, 0, none⟩) (n + 1) cap) w2 ∧
      w2.ownsRow B 33 1 (.slice (some ⟨g, 0, none⟩) (n + 1) cap) (n + 1) (xs ++ [pushV wr z]) ∧ Keeps (fun k => v.ownBlock = some k) wr w2 ∧ (v.ownBlock = some g ∨ wr.heap.size ≤ g) ∧ Blk w2 wr.heap.size 5 (madeCells #[.int .u8 0] z) := by
  obtain ⟨i0, hi, hz0, hz1, hz2⟩ := info_parts info33f
  have hX := pushX_below wr z
  have hox : (pushX wr z).ownsRow B 33 1 v n xs := ownsRow_keeps ho (keeps_of_below (fun _ => False) hX) (fun _ _ e => e)
  have hs := pushX_size wr z
  obtain ⟨v', w2, hap, ho2, hg, hnil, hat⟩ := run_append_own_at (P := Try.prog) (w := pushX wr z) B 81 81 33 i0 (.slice none 0 0) 1 24 Try.underlying81 hi hz0 hz1 hz2 rfl (by decide) v n xs hox ⟨wr.heap.size + 1, 0, none⟩ 1 1 [pushV wr z] rfl
    (fun j u hj => by
      have hb : Blk (pushX wr z) (wr.heap.size + 1) 33 #[pushV wr z] := blk_at (by simp) 33 _
      rw [addr_add, Nat.zero_add, hb.cell]
      simpa using hj) (fun u hu => by simp at hu; subst hu; rfl) (by unfold maxLen; omega) (by omega) (by omega)
  obtain ⟨g, cap, hv'⟩ := row_shape ho2
  subst hv'
  have hk : Keeps (fun k => v.ownBlock = some k) wr w2 := (keeps_of_below (fun k => v.ownBlock = some k) hX).grown hg (fun g e => Or.inr e)
  refine ⟨g, cap, w2, hap, ho2, hk, ?_, ?_⟩
  · rcases hat with h | h
    · exact Or.inl (by rw [← h]; rfl)
    · refine Or.inr ?_
      have : g = (pushX wr z).heap.size := by simpa [Value.ownBlock] using h
      omega
  · refine (pushX_row wr z).grown hg (fun e => ?_)
    have := (ho.lt _ e.symm).2
    omega
/-- What one round of the document's New has made: areas, and maybe a row that is to be one's first. -/
structure RNewR (w : World) (bm : Nat) (rs : List Rng) (lv : Value) (ns : List Area) (ex : List Value) (wr : World) : Prop where
  top : ∃ nv wv, Blk wr bm 83 #[lv, nv, wv] ∧ wr.ownsRow w.heap.size 30 5 lv rs.length (rs.flatMap Rng.cells) ∧ wr.ownsRow w.heap.size 33 1 nv (ns.length + ex.length) (ns.map (·.now) ++ ex) ∧ wr.ownsRow w.heap.size 33 1 wv ns.length (ns.map (·.was)) ∧
    ∀ g, nv.ownBlock = some g → wv.ownBlock ≠ some g
  each : ∀ a ∈ ns, RAreaAt wr a
  apart : (rowsOf ns).Nodup
  fresh : Fresh w (rs.take ns.length) ns
  bel : Below w.heap.size w wr
  bmge : w.heap.size ≤ bm
  pend : ∀ v ∈ ex, ∃ g z, v = .slice (some ⟨g, 0, none⟩) z z ∧ Blk wr g 5 (madeCells #[.int .u8 0] z) ∧ w.heap.size ≤ g ∧ g ∉ rowsOf ns ∧ ∀ r, rs[ns.length]? = some r → r.sz = z
theorem RNewR.row_lt {w wr : World} {bm : Nat} {rs : List Rng} {lv : Value} {ns : List Area} {ex : List Value} (h : RNewR w bm rs lv ns ex wr) {g : Nat} (hg : g ∈ rowsOf ns) : ∃ cur, Blk wr g 5 cur := by
  obtain ⟨a, ha, hg⟩ := List.mem_flatMap.1 hg
  exact (h.each a ha).row_blk hg
theorem rnew_start {w w2 : World} {rs : List Rng} {lv : Value} (ho : w2.ownsRow w.heap.size 30 5 lv rs.length (rs.flatMap Rng.cells)) (hb : Below w.heap.size w w2) :
    RNewR w w2.heap.size rs lv [] [] (w2.alloc (.cells #[lv, .slice none 0 0, .slice none 0 0] 83)) where
  top := ⟨_, _, Blk.new w2 83 _, ownsRow_keeps ho ((Keeps.refl (fun _ => False) w2).alloc _) (fun _ _ e => e), World.ownsRow_nil _ _ _ _, World.ownsRow_nil _ _ _ _, fun g hg => by simp [Value.ownBlock] at hg⟩
  each := fun a ha => by cases ha
  apart := List.nodup_nil
  fresh := ⟨by simp, (fun a ha => by cases ha), (fun g hg => by cases hg)⟩
  bel := hb.alloc hb.size _
  bmge := hb.size
  pend := fun v hv => by cases hv
/-- What a push leaves as it was, when its slice is put into memory's cell. -/
theorem RAreaAt.pushed {wr w2 : World} {bm j : Nat} {v v' : Value} {cs : Array Value} {n B : Nat} {xs : List Value} {a : Area} (h : RAreaAt wr a) (hb : Blk wr bm 83 cs) (ho : wr.ownsRow B 33 1 v n xs) (hk : Keeps (fun k => v.ownBlock = some k) wr w2) : RAreaAt (w2.setCell ⟨bm, j, none⟩ v') a := by
  have hk2 : Keeps (fun k => v.ownBlock = some k ∨ k = bm) wr (w2.setCell ⟨bm, j, none⟩ v') := (hk.mono (G := fun k => v.ownBlock = some k ∨ k = bm) (fun _ _ e => Or.inl e)).setCell (p := ⟨bm, j, none⟩) (Or.inr (Or.inr rfl)) v'
  refine h.keeps hk2 (fun g hg e => ?_)
  obtain ⟨c, hc⟩ := h.row_blk hg
  rcases e with e | rfl
  · obtain ⟨c2, hc2⟩ := owns_kind ho e
    exact hc.ne_ hc2 (by decide) rfl
  · exact hc.ne_ hb (by decide) rfl
/-- What may be turned by a push into cell j. -/
theorem push_keeps {wr w2 : World} {bm j : Nat} {v v' : Value} (hk : Keeps (fun k => v.ownBlock = some k) wr w2) : Keeps (fun k => v.ownBlock = some k ∨ k = bm) wr (w2.setCell ⟨bm, j, none⟩ v') :=
  (hk.mono (G := fun k => v.ownBlock = some k ∨ k = bm) (fun _ _ e => Or.inl e)).setCell (p := ⟨bm, j, none⟩) (Or.inr (Or.inr rfl)) v'
theorem RNewR.now_ {w wr : World} {bm z : Nat} {rs : List Rng} {lv : Value} {ns : List Area} (h : RNewR w bm rs lv ns [] wr) (hk : ns.length ≤ 16) (hz : ∀ r, rs[ns.length]? = some r → r.sz = z) :
    ∃ A0 cap0 g cap w2, wr.cell? ⟨bm, 1, none⟩ = some (.slice A0 ns.length cap0) ∧ (Builtin.append_ #[81, 81] 81 #[.slice A0 ns.length cap0, .slice (some ⟨wr.heap.size + 1, 0, none⟩) 1 1]).run Try.prog (pushX wr z) = .ok (.slice (some ⟨g, 0, none⟩) (ns.length + 1) cap) w2 ∧
      w2.cell? ⟨bm, 1, none⟩ = some (.slice A0 ns.length cap0) ∧ w2.frozen? ⟨bm, 1, none⟩ = false ∧ (∀ b o, b < w.heap.size → w2.cell? ⟨b, o, none⟩ = w.cell? ⟨b, o, none⟩) ∧
      RNewR w bm rs lv ns [pushV wr z] (w2.setCell ⟨bm, 1, none⟩ (.slice (some ⟨g, 0, none⟩) (ns.length + 1) cap)) := by
  obtain ⟨nv, wv, hb, hlr, hn, hw, hd⟩ := h.top
  simp only [List.length_nil, Nat.add_zero, List.append_nil] at hn
  obtain ⟨A0, cap0, rfl, _⟩ := slice_form hn
  obtain ⟨g, cap, w2, hrun, ho2, hk2, hat, hrow⟩ := push33 (z := z) hn h.bel.size hk
  have hkind : ∀ {b : Nat} {t : TypeId} {cs : Array Value}, Blk wr b t cs → t ≠ 33 → ¬ (Value.slice A0 ns.length cap0).ownBlock = some b := fun h1 h2 e => by
    obtain ⟨c, hc⟩ := owns_kind hn e
    exact h1.ne_ hc h2 rfl
  have hb2 : Blk w2 bm 83 #[lv, .slice A0 ns.length cap0, wv] := hb.keeps hk2 (hkind hb (by decide))
  have hkp := push_keeps (bm := bm) (j := 1) (v' := .slice (some ⟨g, 0, none⟩) (ns.length + 1) cap) hk2
  have hbelow : ∀ i, i < w.heap.size → ¬ (Value.slice A0 ns.length cap0).ownBlock = some i := fun i hi e => by have := (hn.lt i e).1; omega
  refine ⟨A0, cap0, g, cap, w2, by rw [hb.cell]; rfl, hrun, by rw [hb2.cell]; rfl, hb2.frozen 1, fun b o hbw => ?_, ⟨⟨.slice (some ⟨g, 0, none⟩) (ns.length + 1) cap, wv, ?_, ?_, ?_, ?_, ?_⟩, fun a ha => (h.each a ha).pushed hb hn hk2, h.apart, h.fresh, ?_, h.bmge, ?_⟩⟩
  · exact (hk2.cell (p := ⟨b, o, none⟩) (Nat.lt_of_lt_of_le hbw h.bel.size) (hbelow b hbw)).trans (h.bel.cell (p := ⟨b, o, none⟩) hbw)
  · have := hb2.set_ 1 (.slice (some ⟨g, 0, none⟩) (ns.length + 1) cap)
    simpa using this
  · refine ownsRow_keeps hlr hkp (fun g' hg' e => ?_)
    obtain ⟨c, hc⟩ := owns_kind hlr hg'
    rcases e with e | rfl
    · exact hkind hc (by decide) e
    · exact hc.ne_ hb (by decide) rfl
  · have h1 := ownsRow_keeps ho2 ((Keeps.refl (fun x => x = bm) w2).setCell (p := ⟨bm, 1, none⟩) (Or.inr rfl) (.slice (some ⟨g, 0, none⟩) (ns.length + 1) cap)) (fun g' hg' e => by
      subst e
      obtain ⟨c, hc⟩ := owns_kind ho2 hg'
      exact hc.ne_ hb2 (by decide) rfl)
    simpa using h1
  · refine ownsRow_keeps hw hkp (fun g' hg' e => ?_)
    rcases e with e | rfl
    · exact hd g' e hg'
    · obtain ⟨c, hc⟩ := owns_kind hw hg'
      exact hc.ne_ hb (by decide) rfl
  · intro g' hg' e
    have e1 : g = g' := by simpa [Value.ownBlock] using hg'
    subst e1
    rcases hat with h1 | h1
    · exact hd g h1 e
    · have := (hw.lt g e).2
      omega
  · exact ((keeps_of_below (fun _ => False) h.bel).trans hkp (fun i hi e => by
      rcases e with e | rfl
      · exact hbelow i hi e
      · have := h.bmge; omega)).below
  · intro v hv
    obtain rfl : v = pushV wr z := by simpa using hv
    refine ⟨wr.heap.size, z, rfl, hrow.far (p := ⟨bm, 1, none⟩) (by have := hb.lt; dsimp only; omega) _, h.bel.size, fun hg => ?_, hz⟩
    obtain ⟨c, hc⟩ := h.row_lt hg
    have := hc.lt
    omega
theorem rowBlk_le (g z : Nat) (xs : List Int) : ∀ x ∈ rowBlk (.slice (some ⟨g, 0, none⟩) z z) xs, x = g := by
  intro x hx
  unfold rowBlk at hx
  split at hx
  · cases hx
  · simpa [Value.ownBlock] using hx
theorem rowBlk_nd (g z : Nat) (xs : List Int) : (rowBlk (.slice (some ⟨g, 0, none⟩) z z) xs).Nodup := by
  unfold rowBlk
  split
  · exact List.nodup_nil
  · simp [Value.ownBlock]
theorem RNewR.was_ {w wr : World} {bm z : Nat} {rs : List Rng} {lv v : Value} {ns : List Area} {r : Rng} (h : RNewR w bm rs lv ns [v] wr) (hk : ns.length ≤ 15) (hr : rs[ns.length]? = some r) (hz : r.sz = z) (hok : r.Ok) :
    ∃ A0 cap0 g cap w2 ns', wr.cell? ⟨bm, 2, none⟩ = some (.slice A0 ns.length cap0) ∧ (Builtin.append_ #[81, 81] 81 #[.slice A0 ns.length cap0, .slice (some ⟨wr.heap.size + 1, 0, none⟩) 1 1]).run Try.prog (pushX wr z) = .ok (.slice (some ⟨g, 0, none⟩) (ns.length + 1) cap) w2 ∧
      w2.cell? ⟨bm, 2, none⟩ = some (.slice A0 ns.length cap0) ∧ w2.frozen? ⟨bm, 2, none⟩ = false ∧ (∀ b o, b < w.heap.size → w2.cell? ⟨b, o, none⟩ = w.cell? ⟨b, o, none⟩) ∧ ns'.length = ns.length + 1 ∧
      RNewR w bm rs lv ns' [] (w2.setCell ⟨bm, 2, none⟩ (.slice (some ⟨g, 0, none⟩) (ns.length + 1) cap)) := by
  obtain ⟨nv, wv, hb, hlr, hn, hw, hd⟩ := h.top
  simp only [List.length_cons, List.length_nil, Nat.zero_add] at hn
  obtain ⟨A0, cap0, rfl, _⟩ := slice_form hw
  obtain ⟨g, cap, w2, hrun, ho2, hk2, hat, hrow⟩ := push33 (z := z) hw h.bel.size (by omega)
  obtain ⟨gv, z', hv, hbv, hgv1, hgv2, hzz⟩ := h.pend v (by simp)
  have hz' : z' = z := by have := hzz r hr; omega
  subst hz'
  have hkind : ∀ {b : Nat} {t : TypeId} {cs : Array Value}, Blk wr b t cs → t ≠ 33 → ¬ (Value.slice A0 ns.length cap0).ownBlock = some b := fun h1 h2 e => by
    obtain ⟨c, hc⟩ := owns_kind hw e
    exact h1.ne_ hc h2 rfl
  have hb2 : Blk w2 bm 83 #[lv, nv, .slice A0 ns.length cap0] := hb.keeps hk2 (hkind hb (by decide))
  have hkp := push_keeps (bm := bm) (j := 2) (v' := .slice (some ⟨g, 0, none⟩) (ns.length + 1) cap) hk2
  have hbelow : ∀ i, i < w.heap.size → ¬ (Value.slice A0 ns.length cap0).ownBlock = some i := fun i hi e => by have := (hw.lt i e).1; omega
  have hlt := hb.lt
  have hgvlt := hbv.lt
  have hzb : z' ≤ 16777216 := by have := hok.s1; omega
  have hold : ∀ x ∈ rowsOf ns, x < wr.heap.size := fun x hx => by
    obtain ⟨c, hc⟩ := h.row_lt hx
    exact hc.lt
  have hbvW : Blk (w2.setCell ⟨bm, 2, none⟩ (.slice (some ⟨g, 0, none⟩) (ns.length + 1) cap)) gv 5 (madeCells #[.int .u8 0] z') := hbv.keeps hkp (fun e => by
    rcases e with e | rfl
    · exact hkind hbv (by decide) e
    · exact hbv.ne_ hb (by decide) rfl)
  have hrowW : Blk (w2.setCell ⟨bm, 2, none⟩ (.slice (some ⟨g, 0, none⟩) (ns.length + 1) cap)) wr.heap.size 5 (madeCells #[.int .u8 0] z') := hrow.far (p := ⟨bm, 2, none⟩) (by dsimp only; omega) _
  obtain ⟨hkl, hkr⟩ := List.getElem?_eq_some_iff.1 hr
  refine ⟨A0, cap0, g, cap, w2, ns ++ [⟨r, 0, v, pushV wr z', List.replicate z' 0, List.replicate z' 0⟩], by rw [hb.cell]; rfl, hrun, by rw [hb2.cell]; rfl, hb2.frozen 2, fun b o hbw => ?_, by simp, ⟨⟨nv, .slice (some ⟨g, 0, none⟩) (ns.length + 1) cap, ?_, ?_, ?_, ?_, ?_⟩, fun a ha => ?_, ?_, ⟨?_, fun a ha => ?_, fun x hx => ?_⟩, ?_, h.bmge, fun v hv => by cases hv⟩⟩
  · exact (hk2.cell (p := ⟨b, o, none⟩) (Nat.lt_of_lt_of_le hbw h.bel.size) (hbelow b hbw)).trans (h.bel.cell (p := ⟨b, o, none⟩) hbw)
  · have := hb2.set_ 2 (.slice (some ⟨g, 0, none⟩) (ns.length + 1) cap)
    simpa using this
  · refine ownsRow_keeps hlr hkp (fun g' hg' e => ?_)
    obtain ⟨c, hc⟩ := owns_kind hlr hg'
    rcases e with e | rfl
    · exact hkind hc (by decide) e
    · exact hc.ne_ hb (by decide) rfl
  · have h1 := ownsRow_keeps hn hkp (fun g' hg' e => by
      rcases e with e | rfl
      · exact hd g' hg' e
      · obtain ⟨c, hc⟩ := owns_kind hn hg'
        exact hc.ne_ hb (by decide) rfl)
    simpa using h1
  · have h1 := ownsRow_keeps ho2 ((Keeps.refl (fun x => x = bm) w2).setCell (p := ⟨bm, 2, none⟩) (Or.inr rfl) (.slice (some ⟨g, 0, none⟩) (ns.length + 1) cap)) (fun g' hg' e => by
      subst e
      obtain ⟨c, hc⟩ := owns_kind ho2 hg'
      exact hc.ne_ hb2 (by decide) rfl)
    simpa using h1
  · intro g' hg' e
    have e1 : g = g' := by simpa [Value.ownBlock] using e
    subst e1
    rcases hat with h1 | h1
    · exact hd g hg' h1
    · have := (hn.lt g hg').2
      omega
  · rcases List.mem_append.1 ha with ha | ha
    · exact (h.each a ha).pushed hb hw hk2
    · obtain rfl := List.mem_singleton.1 ha
      refine ⟨?_, brow_zero hrowW hzb, by simp [hz], by simp [hz], fun x hx => ?_, fun x hx => ?_, hok⟩
      · dsimp only; rw [hv]; exact brow_zero hbvW hzb
      · have := (List.mem_replicate.1 hx).2; omega
      · have := (List.mem_replicate.1 hx).2; omega
  · unfold rowsOf
    rw [List.flatMap_append]
    have e0 : List.flatMap Area.rows [(⟨r, 0, v, pushV wr z', List.replicate z' 0, List.replicate z' 0⟩ : Area)] = rowBlk v (List.replicate z' 0) ++ rowBlk (pushV wr z') (List.replicate z' 0) := by simp [Area.rows]
    rw [e0, hv]
    unfold pushV
    refine List.nodup_append.2 ⟨h.apart, List.nodup_append.2 ⟨rowBlk_nd _ _ _, rowBlk_nd _ _ _, fun x hx y hy e => ?_⟩, fun x hx y hy e => ?_⟩
    · have := rowBlk_le _ _ _ x hx; have := rowBlk_le _ _ _ y hy; omega
    · subst e
      rcases List.mem_append.1 hy with hy | hy
      · have := rowBlk_le _ _ _ x hy
        subst this
        exact hgv2 hx
      · have := rowBlk_le _ _ _ x hy
        have := hold x hx
        omega
  · rw [List.map_append, h.fresh.ranges, List.length_append, List.length_singleton, List.take_succ_eq_append_getElem hkl, hkr]
    rfl
  · rcases List.mem_append.1 ha with ha | ha
    · exact h.fresh.zero a ha
    · obtain rfl := List.mem_singleton.1 ha
      simp
  · unfold rowsOf at hx
    rw [List.flatMap_append] at hx
    rcases List.mem_append.1 hx with hx | hx
    · exact h.fresh.new x hx
    · have e0 : List.flatMap Area.rows [(⟨r, 0, v, pushV wr z', List.replicate z' 0, List.replicate z' 0⟩ : Area)] = rowBlk v (List.replicate z' 0) ++ rowBlk (pushV wr z') (List.replicate z' 0) := by simp [Area.rows]
      rw [e0, hv] at hx
      unfold pushV at hx
      rcases List.mem_append.1 hx with hx | hx
      · have := rowBlk_le _ _ _ x hx; omega
      · have := rowBlk_le _ _ _ x hx; have := h.bel.size; omega
  · exact ((keeps_of_below (fun _ => False) h.bel).trans hkp (fun i hi e => by
      rcases e with e | rfl
      · exact hbelow i hi e
      · have := h.bmge; omega)).below
theorem RNewR.done {w wr : World} {bm : Nat} {rs : List Rng} {lv : Value} {ns : List Area} (h : RNewR w bm rs lv ns [] wr) (hl : ns.length = rs.length) (h16 : rs.length ≤ 16) : RefAt wr bm ns ∧ Fresh w rs ns := by
  obtain ⟨nv, wv, hb, hlr, hn, hw, hd⟩ := h.top
  simp only [List.length_nil, Nat.add_zero, List.append_nil] at hn
  have hf := h.fresh
  rw [List.take_of_length_le (by omega)] at hf
  refine ⟨⟨⟨lv, nv, wv, hb, ?_, ownsRow_base hn, ownsRow_base hw, hd⟩, h.each, h.apart, by omega⟩, hf⟩
  have e : (ns.flatMap fun a => a.r.cells) = rs.flatMap Rng.cells := by rw [← hf.ranges, List.flatMap_map]
  rw [e, hl]
  exact ownsRow_base hlr
end Go.Proofs.Ytbffclcjhcbejaa
namespace Go.Proofs.Ytbffclcjhcbejaa
open Go.RowKit
/-- The block in which the ranges lie. -/
def lBlk (w : World) (bm : Nat) : Option Nat := (w.cell? ⟨bm, 0, none⟩).bind Value.ownBlock
def RNewPost (rs : List Rng) (w : World) (e : Ending) (w' : World) : Prop :=
  Below w.heap.size w w' ∧ ((chkR rs ≠ 0 ∧ e = .returned (.tuple #[.pointer none, .int .i64 (chkR rs)])) ∨
    (chkR rs = 0 ∧ ∃ bm ns, e = .returned (.tuple #[.pointer (some ⟨bm, 0, none⟩), .int .i64 0]) ∧ w.heap.size ≤ bm ∧ RefAt w' bm ns ∧ Fresh w rs ns ∧ (∀ g, wasBlk w' bm = some g → w.heap.size ≤ g) ∧ ∀ g, lBlk w' bm = some g → w.heap.size ≤ g))
/-- What the statement 'm.Now = append(m.Now, make(..))' reads: memory's own cell, and the range's size. -/
structure RNewS (bm j : Nat) (lv : Value) (g o : Nat) (z : Nat) (w' : World) : Prop where
  top : w'.cell? ⟨bm, j, none⟩ = some lv
  siz : w'.cell? ⟨g, o, none⟩ = some (.int .i64 (z : Int))
theorem RNewS.alloc {bm j : Nat} {lv : Value} {g o z : Nat} {w' : World} (h : RNewS bm j lv g o z w') (ob : Obj) : RNewS bm j lv g o z (w'.alloc ob) := ⟨cell_al h.top ob, cell_al h.siz ob⟩
theorem RNewR.wasge {w wr : World} {bm : Nat} {rs : List Rng} {lv : Value} {ns : List Area} {ex : List Value} (h : RNewR w bm rs lv ns ex wr) : ∀ g, wasBlk wr bm = some g → w.heap.size ≤ g := by
  obtain ⟨nv, wv, hb, hlr, hn, hw, hd⟩ := h.top
  intro g hg
  have e : wr.cell? ⟨bm, 2, none⟩ = some wv := by rw [hb.cell]; rfl
  unfold wasBlk at hg
  rw [e] at hg
  exact (hw.lt g hg).1
theorem RNewR.lge {w wr : World} {bm : Nat} {rs : List Rng} {lv : Value} {ns : List Area} {ex : List Value} (h : RNewR w bm rs lv ns ex wr) : ∀ g, lBlk wr bm = some g → w.heap.size ≤ g := by
  obtain ⟨nv, wv, hb, hlr, hn, hw, hd⟩ := h.top
  intro g hg
  have e : wr.cell? ⟨bm, 0, none⟩ = some lv := by rw [hb.cell]; rfl
  unfold lBlk at hg
  rw [e] at hg
  exact (hlr.lt g hg).1
set_option maxHeartbeats 1000000 in
theorem rnew_bad (v : Value) (rs : List Rng) (w : World) (h : RSlice w v rs) (hc : chkR rs ≠ 0) : Calls Try.prog 16 #[v] w (RNewPost rs w) := by
  have HCON := Lib.hid (rcheck_any v rs w h)
  have hv := chk_val rs
  obtain ⟨c, hcc⟩ : ∃ c, chkR rs = c := ⟨_, rfl⟩
  have HC := Lib.hid hc
  rw [hcc] at hv hc HCON
  have HCC := Lib.hid hcc
  have hb : (c != 0) = true := by simp [hc]
  obtain ⟨A, cap, rfl, _⟩ := h
  clear hcc hc hv
  go_enter Try.func16, Try.ntmps16
  go_wp2_with fail
  refine HCON.out.mono ?_
  rintro e w1 ⟨rfl, hb1⟩
  have HB1 := Lib.hid hb1
  clear hb1
  go_wp2_with fail
  go_ret2
  exact ⟨HB1.out, Or.inl ⟨HC.out, by rw [HCC.out]; rfl⟩⟩
set_option maxRecDepth 100000 in
set_option maxHeartbeats 4000000 in
theorem rnew_good (v : Value) (rs : List Rng) (w : World) (h : RSlice w v rs) (hchk : chkR rs = 0) : Calls Try.prog 16 #[v] w (RNewPost rs w) := by
  have HCON := Lib.hid (rcheck_any v rs w h)
  have H := Lib.hid h
  have hlen : rs.length ≤ 16 := by
    rcases Nat.lt_or_ge 16 rs.length with hl | hl
    · unfold chkR at hchk; rw [if_pos hl] at hchk; cases hchk
    · exact hl
  obtain ⟨A, cap, rfl, hcap, hmax, hnm, hcells⟩ := h
  have HCELLS := Lib.hid hcells
  have hok : ∀ k (h : k < rs.length), (rs[k]).Ok := by
    intro k hk
    have h1 : chkAll rs = true := by
      unfold chkR at hchk
      rw [if_neg (by omega)] at hchk
      cases h : chkAll rs with
      | true => rfl
      | false => rw [h] at hchk; simp at hchk
    have h2 := List.all_eq_true.1 h1 k (List.mem_range.2 hk)
    rw [okAt_lt hk] at h2
    simp at h2
    exact rngB_ok h2.1
  have HOK := Lib.hid hok
  have HCHK := Lib.hid hchk
  have HLEN := Lib.hid hlen
  clear hok hchk hnm hcells
  unfold maxLen at hmax
  have hbs : ∀ w, (Instr.buildSlice 22 0 #[]).run Try.prog w = .ok (.slice (some ⟨w.heap.size, 0, none⟩) 0 0) (w.alloc (.cells #[] 30)) := fun _ => by kernel_rfl
  obtain ⟨N, hN⟩ : ∃ N, rs.length = N := ⟨_, rfl⟩
  have HN := Lib.hid hN
  rw [hN] at hlen hcap HCON H ⊢
  clear hN
  go_enter Try.func16, Try.ntmps16
  go_wp2_with fail
  refine HCON.out.mono ?_
  rintro e w1 ⟨rfl, hb1⟩
  rw [HCHK.out]
  have HB1 := Lib.hid hb1
  obtain ⟨Al, capl, w2, hap, hc1, hc2, ho, hbel⟩ := copy_ranges (H.out.below hb1) (by rw [HN.out]; omega)
  have hb2 := hb1.trans (hbel.mono hb1.size)
  have HST := Lib.hid (rnew_start (ownsRow_lower ho hb1.size) hb2)
  have HAP := Lib.hid hap
  rw [HN.out] at HAP HST
  have hbm := hb2.size
  clear hb1 hap ho hbel hb2 hc1 hc2
  go_wp2_with (at_builtin; refine wpList_append_eq rfl (.tmp 12) (.tmp 13) 22 rfl rfl rfl HAP.out ?_)
  go_loopw [6] (fun i wr => ∃ (k : Nat) (ns : List Area), k ≤ N ∧ i = .int .i64 k ∧ ns.length = k ∧ Hid (RNewR w w2.heap.size rs (.slice Al N capl) ns [] wr)) (fun i _ => N - (intOf i).toNat)
  case atStart => exact ⟨0, [], Nat.zero_le _, rfl, rfl, HST.out⟩
  case round =>
    obtain ⟨k, ns, hk, rfl, hlk, HR⟩ := hrel
    by_cases hlt : k < N
    · have hkl : k < rs.length := by rw [HN.out]; exact hlt
      obtain ⟨g, off, rfl, hg, hc⟩ := HCELLS.out (by rintro rfl; simp at hkl)
      have hOk := HOK.out k hkl
      have hrk : rs[k]? = some rs[k] := List.getElem?_eq_getElem hkl
      obtain ⟨_, _, c2, _, _⟩ := hc.five hkl
      obtain ⟨r, hr⟩ : ∃ r, rs[k] = r := ⟨_, rfl⟩
      rw [hr] at c2 hOk hrk
      obtain ⟨z, hz⟩ : ∃ z : Nat, r.sz = z := ⟨r.sz.toNat, by have := hOk.s0; omega⟩
      have hmk := fun W => make_run W z (by have := hOk.s1; omega)
      rw [hz] at c2
      have HG := Lib.hid hg
      have HC2 : Hid (∀ W : World, (∀ b o, b < w.heap.size → W.cell? ⟨b, o, none⟩ = w.cell? ⟨b, o, none⟩) → W.cell? ⟨g, off + k * 5 + 2, none⟩ = some (.int .i64 (z : Int))) := fun W hW => (hW g _ HG.out).trans c2
      obtain ⟨A0, cap0, g1, cap1, w3, ct, hrun, ct2, hfz, hold, hR2⟩ := HR.out.now_ (z := z) (by omega) (fun r' hr' => by rw [hlk, hrk] at hr'; cases hr'; exact hz)
      have hS1 : RNewS w2.heap.size 1 (.slice A0 ns.length cap0) g (off + k * 5 + 2) z w3 := ⟨ct2, HC2.out w3 hold⟩
      have hS00 : RNewS w2.heap.size 1 (.slice A0 ns.length cap0) g (off + k * 5 + 2) z wr.drew := ⟨ct, HC2.out wr (fun b o hbo => HR.out.bel.cell (p := ⟨b, o, none⟩) hbo)⟩
      have HRUN := Lib.hid hrun
      have HR2 := Lib.hid hR2
      have HRK := Lib.hid hrk
      have HOKR := Lib.hid hOk
      have HZ := Lib.hid hz
      have HLK := Lib.hid hlk
      have HFZ := Lib.hid hfz
      have e5 : (0 : Int) ≤ (k : Int) := by omega
      have e6 : (k : Int) < ((N : Nat) : Int) := by omega
      clear hrun hR2 hc hg c2 hOk hrk hr hz hfz ct ct2 hold hlk
      go_wp2_with fail
      refine wp_region_late (S := RNewS w2.heap.size 1 (.slice A0 ns.length cap0) g (off + k * 5 + 2) z) 15 (by kernel_rfl) hS00 (fun hS0 => ?_)
      clear hS00
      refine wpAnyE_take (i := 0) (v := ?_) rfl (by kernel_rfl) (by kernel_rfl) (by kernel_rfl) 0 (by kernel_rfl) (fun _ _ _ h => h) (by assumption) (Or.inl ⟨by rfl, ?_⟩) ?_
      rotate_left 1
      · intro w' hSw
        obtain ⟨s0, s1⟩ := hSw
        go_simp
        try (with_reducible rfl)
      simp only [Act.put, List.setIfInBounds_toArray, List.set_cons_zero, List.set_cons_succ]
      refine wpAnyE_take (i := 1) (v := ?_) rfl (by kernel_rfl) (by kernel_rfl) (by kernel_rfl) 1 (by kernel_rfl) (fun _ _ _ h => h) (by assumption) (Or.inl ⟨by rfl, ?_⟩) ?_
      rotate_left 1
      · intro w' hSw
        obtain ⟨s0, s1⟩ := hSw
        go_simp
        try (with_reducible rfl)
      simp only [Act.put, List.setIfInBounds_toArray, List.set_cons_zero, List.set_cons_succ]
      refine wpAnyE_take (i := 2) (v := ?_) rfl (by kernel_rfl) (by kernel_rfl) (by kernel_rfl) 2 (by kernel_rfl) (fun _ _ _ h => h) (by assumption) (Or.inl ⟨by rfl, ?_⟩) ?_
      rotate_left 1
      · intro w' hSw
        obtain ⟨s0, s1⟩ := hSw
        go_simp
        try (with_reducible rfl)
      simp only [Act.put, List.setIfInBounds_toArray, List.set_cons_zero, List.set_cons_succ]
      refine wpAnyE_take (i := 3) (v := ?_) rfl (by kernel_rfl) (by kernel_rfl) (by kernel_rfl) 3 (by kernel_rfl) (fun _ _ _ h => h) (by assumption) (Or.inl ⟨by rfl, ?_⟩) ?_
      rotate_left 1
      · intro w' hSw
        obtain ⟨s0, s1⟩ := hSw
        go_simp
        try (with_reducible rfl)
      simp only [Act.put, List.setIfInBounds_toArray, List.set_cons_zero, List.set_cons_succ]
      refine wpAnyE_take (i := 4) (v := ?_) rfl (by kernel_rfl) (by kernel_rfl) (by kernel_rfl) 4 (by kernel_rfl) (fun _ _ _ h => h) (by assumption) (Or.inl ⟨by rfl, ?_⟩) ?_
      rotate_left 1
      · intro w' hSw
        obtain ⟨s0, s1⟩ := hSw
        go_simp
        try (with_reducible rfl)
      simp only [Act.put, List.setIfInBounds_toArray, List.set_cons_zero, List.set_cons_succ]
      refine wpAnyE_take (i := 5) (v := ?_) rfl (by kernel_rfl) (by kernel_rfl) (by kernel_rfl) 5 (by kernel_rfl) (fun _ _ _ h => h) (by assumption) (Or.inl ⟨by rfl, ?_⟩) ?_
      rotate_left 1
      · intro w' hSw
        obtain ⟨s0, s1⟩ := hSw
        go_simp
        try (with_reducible rfl)
      simp only [Act.put, List.setIfInBounds_toArray, List.set_cons_zero, List.set_cons_succ]
      refine wpAnyE_take (i := 6) (v := ?_) rfl (by kernel_rfl) (by kernel_rfl) (by kernel_rfl) 6 (by kernel_rfl) (fun _ _ _ h => h) (by assumption) (Or.inl ⟨by rfl, ?_⟩) ?_
      rotate_left 1
      · intro w' hSw
        obtain ⟨s0, s1⟩ := hSw
        go_simp
        try (with_reducible rfl)
      simp only [Act.put, List.setIfInBounds_toArray, List.set_cons_zero, List.set_cons_succ]
      refine wpAnyE_take (i := 7) (v := ?_) rfl (by kernel_rfl) (by kernel_rfl) (by kernel_rfl) 7 (by kernel_rfl) (fun _ _ _ h => h) (by assumption) (Or.inl ⟨by rfl, ?_⟩) ?_
      rotate_left 1
      · intro w' hSw
        obtain ⟨s0, s1⟩ := hSw
        go_simp
        try (with_reducible rfl)
      simp only [Act.put, List.setIfInBounds_toArray, List.set_cons_zero, List.set_cons_succ]
      refine wpAnyE_take (i := 8) (v := ?_) rfl (by kernel_rfl) (by kernel_rfl) (by kernel_rfl) 8 (by kernel_rfl) (fun _ _ _ h => h) (by assumption) (Or.inl ⟨by rfl, ?_⟩) ?_
      rotate_left 1
      · intro w' hSw
        obtain ⟨s0, s1⟩ := hSw
        go_simp
        try (with_reducible rfl)
      simp only [Act.put, List.setIfInBounds_toArray, List.set_cons_zero, List.set_cons_succ]
      refine wpAnyE_take (i := 9) (v := ?_) rfl (by kernel_rfl) (by kernel_rfl) (by kernel_rfl) 9 (by kernel_rfl) (fun _ _ _ h => h) (by assumption) (Or.inl ⟨by rfl, ?_⟩) ?_
      rotate_left 1
      · intro w' hSw
        obtain ⟨s0, s1⟩ := hSw
        go_simp
        try (with_reducible rfl)
      simp only [Act.put, List.setIfInBounds_toArray, List.set_cons_zero, List.set_cons_succ]
      refine wpAnyE_ready (rs := [10]) (by kernel_rfl) (by simp) ?_
      refine AllReadyE.cons rfl (fun K hK => ?_) AllReadyE.nil
      go_simp
      refine hK.out _ _ (fun _ => ?_) (fun hSq => ?_)
      · exact hS0.alloc _
      have hSa := hSq (by decide)
      clear hSq hK K
      try simp only [Act.put, List.setIfInBounds_toArray, List.set_cons_zero, List.set_cons_succ]
      refine wpAnyE_ready (rs := [11]) (by kernel_rfl) (by simp) ?_
      refine AllReadyE.cons rfl (fun K hK => ?_) AllReadyE.nil
      go_simp
      refine hK.out _ _ (fun _ => ?_) (fun hSq => ?_)
      · exact hSa.alloc _
      have hSb := hSq (by decide)
      clear hSq hK K
      try simp only [Act.put, List.setIfInBounds_toArray, List.set_cons_zero, List.set_cons_succ]
      refine wpAnyE_ready (rs := [12]) (by kernel_rfl) (by simp) ?_
      refine AllReadyE.cons rfl (fun K hK => ?_) AllReadyE.nil
      refine step_append_eq (by rfl) (.tmp 27) (.tmp 34) 81 (by rfl) (by rfl) (by rfl) HRUN.out ?_
      refine hK.out _ _ (fun _ => hS1) (fun _ => ?_)
      clear hK K hS0 hSa hSb
      try simp only [Act.put, List.setIfInBounds_toArray, List.set_cons_zero, List.set_cons_succ]
      refine wpAnyE_ready (rs := [13]) (by kernel_rfl) (by simp) ?_
      refine AllReadyE.cons rfl (fun K hK => ?_) AllReadyE.nil
      go_simp
      refine hK.out _ _ (fun _ => hS1) (fun _ => ?_)
      clear hK K
      try simp only [Act.put, List.setIfInBounds_toArray, List.set_cons_zero, List.set_cons_succ]
      refine wpAnyE_ready (rs := [14]) (by kernel_rfl) (by simp) ?_
      refine AllReadyE.cons rfl (fun K hK => ?_) AllReadyE.nil
      go_simp
      refine hK.out _ _ (fun _ => hS1) (fun _ => ?_)
      clear hK K
      try simp only [Act.put, List.setIfInBounds_toArray, List.set_cons_zero, List.set_cons_succ]
      have hct := hS1.top
      have hfl2 := HFZ.out
      refine wpAnyE_ready (rs := [15]) (by kernel_rfl) (by simp) ?_
      refine AllReadyE.cons rfl (fun K hK => ?_) AllReadyE.nil
      go_simp
      refine hK.out _ _ (fun h => absurd rfl h) (fun _ => ?_)
      clear hK K
      try simp only [Act.put, List.setIfInBounds_toArray, List.set_cons_zero, List.set_cons_succ]
      refine wpAnyE_done (by kernel_rfl) ?_ _
      clear hct hfl2 hS1 HFZ
      generalize hW3 : w3.setCell ⟨w2.heap.size, 1, none⟩ (.slice (some ⟨g1, 0, none⟩) (ns.length + 1) cap1) = W3 at HR2 ⊢
      clear hW3
      obtain ⟨A2, cap2, g3, cap3, w4, ns', ct, hrun, ct2, hfz, hold, hlen', hR3⟩ := HR2.out.was_ (by rw [HLK.out]; omega) (by rw [HLK.out]; exact HRK.out) HZ.out HOKR.out
      have hS2 : RNewS w2.heap.size 2 (.slice A2 ns.length cap2) g (off + k * 5 + 2) z w4 := ⟨ct2, HC2.out w4 hold⟩
      have hS00 : RNewS w2.heap.size 2 (.slice A2 ns.length cap2) g (off + k * 5 + 2) z W3.drew := ⟨ct, HC2.out W3 (fun b o hbo => HR2.out.bel.cell (p := ⟨b, o, none⟩) hbo)⟩
      have HRUN2 := Lib.hid hrun
      have HR3 := Lib.hid hR3
      have HFZ := Lib.hid hfz
      clear hrun hR3 hfz ct ct2 hold
      have HLEN' := Lib.hid hlen'
      clear hlen'
      go_wp2_with fail
      refine wp_region_late (S := RNewS w2.heap.size 2 (.slice A2 ns.length cap2) g (off + k * 5 + 2) z) 15 (by kernel_rfl) hS00 (fun hS0 => ?_)
      clear hS00
      refine wpAnyE_take (i := 0) (v := ?_) rfl (by kernel_rfl) (by kernel_rfl) (by kernel_rfl) 0 (by kernel_rfl) (fun _ _ _ h => h) (by assumption) (Or.inl ⟨by rfl, ?_⟩) ?_
      rotate_left 1
      · intro w' hSw
        obtain ⟨s0, s1⟩ := hSw
        go_simp
        try (with_reducible rfl)
      simp only [Act.put, List.setIfInBounds_toArray, List.set_cons_zero, List.set_cons_succ]
      refine wpAnyE_take (i := 1) (v := ?_) rfl (by kernel_rfl) (by kernel_rfl) (by kernel_rfl) 1 (by kernel_rfl) (fun _ _ _ h => h) (by assumption) (Or.inl ⟨by rfl, ?_⟩) ?_
      rotate_left 1
      · intro w' hSw
        obtain ⟨s0, s1⟩ := hSw
        go_simp
        try (with_reducible rfl)
      simp only [Act.put, List.setIfInBounds_toArray, List.set_cons_zero, List.set_cons_succ]
      refine wpAnyE_take (i := 2) (v := ?_) rfl (by kernel_rfl) (by kernel_rfl) (by kernel_rfl) 2 (by kernel_rfl) (fun _ _ _ h => h) (by assumption) (Or.inl ⟨by rfl, ?_⟩) ?_
      rotate_left 1
      · intro w' hSw
        obtain ⟨s0, s1⟩ := hSw
        go_simp
        try (with_reducible rfl)
      simp only [Act.put, List.setIfInBounds_toArray, List.set_cons_zero, List.set_cons_succ]
      refine wpAnyE_take (i := 3) (v := ?_) rfl (by kernel_rfl) (by kernel_rfl) (by kernel_rfl) 3 (by kernel_rfl) (fun _ _ _ h => h) (by assumption) (Or.inl ⟨by rfl, ?_⟩) ?_
      rotate_left 1
      · intro w' hSw
        obtain ⟨s0, s1⟩ := hSw
        go_simp
        try (with_reducible rfl)
      simp only [Act.put, List.setIfInBounds_toArray, List.set_cons_zero, List.set_cons_succ]
      refine wpAnyE_take (i := 4) (v := ?_) rfl (by kernel_rfl) (by kernel_rfl) (by kernel_rfl) 4 (by kernel_rfl) (fun _ _ _ h => h) (by assumption) (Or.inl ⟨by rfl, ?_⟩) ?_
      rotate_left 1
      · intro w' hSw
        obtain ⟨s0, s1⟩ := hSw
        go_simp
        try (with_reducible rfl)
      simp only [Act.put, List.setIfInBounds_toArray, List.set_cons_zero, List.set_cons_succ]
      refine wpAnyE_take (i := 5) (v := ?_) rfl (by kernel_rfl) (by kernel_rfl) (by kernel_rfl) 5 (by kernel_rfl) (fun _ _ _ h => h) (by assumption) (Or.inl ⟨by rfl, ?_⟩) ?_
      rotate_left 1
      · intro w' hSw
        obtain ⟨s0, s1⟩ := hSw
        go_simp
        try (with_reducible rfl)
      simp only [Act.put, List.setIfInBounds_toArray, List.set_cons_zero, List.set_cons_succ]
      refine wpAnyE_take (i := 6) (v := ?_) rfl (by kernel_rfl) (by kernel_rfl) (by kernel_rfl) 6 (by kernel_rfl) (fun _ _ _ h => h) (by assumption) (Or.inl ⟨by rfl, ?_⟩) ?_
      rotate_left 1
      · intro w' hSw
        obtain ⟨s0, s1⟩ := hSw
        go_simp
        try (with_reducible rfl)
      simp only [Act.put, List.setIfInBounds_toArray, List.set_cons_zero, List.set_cons_succ]
      refine wpAnyE_take (i := 7) (v := ?_) rfl (by kernel_rfl) (by kernel_rfl) (by kernel_rfl) 7 (by kernel_rfl) (fun _ _ _ h => h) (by assumption) (Or.inl ⟨by rfl, ?_⟩) ?_
      rotate_left 1
      · intro w' hSw
        obtain ⟨s0, s1⟩ := hSw
        go_simp
        try (with_reducible rfl)
      simp only [Act.put, List.setIfInBounds_toArray, List.set_cons_zero, List.set_cons_succ]
      refine wpAnyE_take (i := 8) (v := ?_) rfl (by kernel_rfl) (by kernel_rfl) (by kernel_rfl) 8 (by kernel_rfl) (fun _ _ _ h => h) (by assumption) (Or.inl ⟨by rfl, ?_⟩) ?_
      rotate_left 1
      · intro w' hSw
        obtain ⟨s0, s1⟩ := hSw
        go_simp
        try (with_reducible rfl)
      simp only [Act.put, List.setIfInBounds_toArray, List.set_cons_zero, List.set_cons_succ]
      refine wpAnyE_take (i := 9) (v := ?_) rfl (by kernel_rfl) (by kernel_rfl) (by kernel_rfl) 9 (by kernel_rfl) (fun _ _ _ h => h) (by assumption) (Or.inl ⟨by rfl, ?_⟩) ?_
      rotate_left 1
      · intro w' hSw
        obtain ⟨s0, s1⟩ := hSw
        go_simp
        try (with_reducible rfl)
      simp only [Act.put, List.setIfInBounds_toArray, List.set_cons_zero, List.set_cons_succ]
      refine wpAnyE_ready (rs := [10]) (by kernel_rfl) (by simp) ?_
      refine AllReadyE.cons rfl (fun K hK => ?_) AllReadyE.nil
      go_simp
      refine hK.out _ _ (fun _ => ?_) (fun hSq => ?_)
      · exact hS0.alloc _
      have hSa := hSq (by decide)
      clear hSq hK K
      try simp only [Act.put, List.setIfInBounds_toArray, List.set_cons_zero, List.set_cons_succ]
      refine wpAnyE_ready (rs := [11]) (by kernel_rfl) (by simp) ?_
      refine AllReadyE.cons rfl (fun K hK => ?_) AllReadyE.nil
      go_simp
      refine hK.out _ _ (fun _ => ?_) (fun hSq => ?_)
      · exact hSa.alloc _
      have hSb := hSq (by decide)
      clear hSq hK K
      try simp only [Act.put, List.setIfInBounds_toArray, List.set_cons_zero, List.set_cons_succ]
      refine wpAnyE_ready (rs := [12]) (by kernel_rfl) (by simp) ?_
      refine AllReadyE.cons rfl (fun K hK => ?_) AllReadyE.nil
      refine step_append_eq (by rfl) (.tmp 42) (.tmp 49) 81 (by rfl) (by rfl) (by rfl) HRUN2.out ?_
      refine hK.out _ _ (fun _ => hS2) (fun _ => ?_)
      clear hK K hS0 hSa hSb
      try simp only [Act.put, List.setIfInBounds_toArray, List.set_cons_zero, List.set_cons_succ]
      refine wpAnyE_ready (rs := [13]) (by kernel_rfl) (by simp) ?_
      refine AllReadyE.cons rfl (fun K hK => ?_) AllReadyE.nil
      go_simp
      refine hK.out _ _ (fun _ => hS2) (fun _ => ?_)
      clear hK K
      try simp only [Act.put, List.setIfInBounds_toArray, List.set_cons_zero, List.set_cons_succ]
      refine wpAnyE_ready (rs := [14]) (by kernel_rfl) (by simp) ?_
      refine AllReadyE.cons rfl (fun K hK => ?_) AllReadyE.nil
      go_simp
      refine hK.out _ _ (fun _ => hS2) (fun _ => ?_)
      clear hK K
      try simp only [Act.put, List.setIfInBounds_toArray, List.set_cons_zero, List.set_cons_succ]
      have hct := hS2.top
      have hfl2 := HFZ.out
      refine wpAnyE_ready (rs := [15]) (by kernel_rfl) (by simp) ?_
      refine AllReadyE.cons rfl (fun K hK => ?_) AllReadyE.nil
      go_simp
      refine hK.out _ _ (fun h => absurd rfl h) (fun _ => ?_)
      clear hK K
      try simp only [Act.put, List.setIfInBounds_toArray, List.set_cons_zero, List.set_cons_succ]
      refine wpAnyE_done (by kernel_rfl) ?_ _
      clear hct hfl2 hS2 HFZ
      go_wp2_with fail
      go_roundw
      case rel => exact ⟨k + 1, ns', by omega, by go_num, by rw [HLEN'.out, HLK.out], HR3.out⟩
      case measure => simp [intOf]; omega
    · have hfin : RNewPost rs w (.returned (.tuple #[.pointer (some ⟨w2.heap.size, 0, none⟩), .int .i64 0])) wr := by
        obtain ⟨q1, q2⟩ := HR.out.done (by rw [HN.out]; omega) HLEN.out
        exact ⟨HR.out.bel, Or.inr ⟨HCHK.out, _, ns, rfl, hbm, q1, q2, HR.out.wasge, HR.out.lge⟩⟩
      have HFIN := Lib.hid hfin
      clear hfin
      go_wp2_with fail
      go_ret2
      exact HFIN.out
theorem rnew_any (v : Value) (rs : List Rng) (w : World) (h : RSlice w v rs) : Calls Try.prog 16 #[v] w (RNewPost rs w) := by
  by_cases hc : chkR rs = 0
  · exact rnew_good v rs w h hc
  · exact rnew_bad v rs w h hc
end Go.Proofs.Ytbffclcjhcbejaa
