/- Walks: slices.Clone at bytes, (*Mem).Clone. Conditions: none. -/
import Derived.Test.YtbffclcjhcbejaaM1
namespace Go.Proofs.Ytbffclcjhcbejaa
open Go.RowKit
theorem brow_of_owns {w : World} {B : Nat} {v : Value} {xs : List Int} (h : w.ownsRow B 5 1 v xs.length (xs.map (Value.int .u8))) : BRow w v xs ∧ ∀ g ∈ rowBlk v xs, B ≤ g := by
  have hh := h
  rcases h.2 with ⟨rfl, h0⟩ | ⟨g, cap, cur, rfl, hb, hh2, h1, h2, h3, h4⟩
  · have hx : xs = [] := List.length_eq_zero_iff.1 h0
    subst hx
    exact ⟨⟨none, 0, rfl, by simp, by decide, fun h => absurd rfl h⟩, fun g hg => by simp [rowBlk] at hg⟩
  · refine ⟨⟨_, cap, rfl, h1, h2, fun _ => ⟨g, cur, rfl, hh2, by omega, by rw [Nat.mul_one] at h4; exact h4⟩⟩, fun g' hg' => ?_⟩
    obtain ⟨_, e⟩ := mem_rowBlk hg'
    have : g = g' := by simpa [Value.ownBlock] using e
    omega
def ClonePost (xs : List Int) (w : World) (e : Ending) (w' : World) : Prop := ∃ v, e = .returned v ∧ BRow w' v xs ∧ (∀ g ∈ rowBlk v xs, w.heap.size ≤ g) ∧ Below w.heap.size w w'
theorem clone_brow (v : Value) (xs : List Int) (w : World) (h : BRow w v xs) (hl : xs.length ≤ 16777216) : Calls Try.prog 27 #[v] w (ClonePost xs w) := by
  obtain ⟨A, cap, rfl, h1, h2, h3⟩ := h
  cases A with
  | none =>
    have hx : xs = [] := by
      by_cases hx : xs = []
      · exact hx
      · obtain ⟨g, cur, e, _⟩ := h3 hx
        cases e
    subst hx
    have hfin : ClonePost [] w (.returned (.slice none 0 0)) w := ⟨_, rfl, ⟨none, 0, rfl, by simp, by decide, fun h => absurd rfl h⟩, (fun g hg => by simp [rowBlk] at hg), Below.refl _ _⟩
    have HF := Lib.hid hfin
    have hnn := fun w => Lib.run_eql_slice_nil (P := Try.prog) w 33 5 none 0 cap 0 0 Try.underlying33
    clear hfin h3
    go_enter Try.func27, Try.ntmps27
    go_wp2
    go_ret
    exact HF.out
  | some ad =>
    refine (cloneB ad cap xs w (fun j u hj => ?_) hl).mono ?_
    · have hne : xs ≠ [] := by rintro rfl; simp at hj
      obtain ⟨g, cur, e, hb, hs, ht⟩ := h3 hne
      cases e
      have hjn : j < xs.length := by
        rcases Nat.lt_or_ge j xs.length with h | h
        · exact h
        · rw [List.getElem?_eq_none (by simpa using h)] at hj; cases hj
      rw [addr_add, Nat.zero_add, hb.cell, row_get ht j hjn]
      simp [hjn] at hj
      rw [hj]
    · rintro e w' ⟨v, rfl, ho, hb⟩
      obtain ⟨hb1, hb2⟩ := brow_of_owns ho
      exact ⟨v, rfl, hb1, hb2, hb⟩
theorem BRow.below {w w' : World} {v : Value} {xs : List Int} (h : BRow w v xs) (hb : Below w.heap.size w w') : BRow w' v xs := h.keeps (keeps_of_below (fun _ => False) hb) (fun _ _ e => e)
theorem brow_shape {w : World} {v : Value} {xs : List Int} (h : BRow w v xs) : ∃ A cap, v = .slice A xs.length cap := by
  obtain ⟨A, cap, e, _⟩ := h
  exact ⟨A, cap, e⟩
/-- What an area holds, but for where. -/
def Area.key (a : Area) : Rng × List Int × List Int := (a.r, a.xs, a.ys)
/-- What the statement 'c.l = append(c.l, &area{..})' reads. -/
structure CloS (bm : Nat) (lv : Value) (a : Area) (w' : World) : Prop where
  top : w'.cell? ⟨bm, 0, none⟩ = some lv
  c0 : w'.cell? ⟨a.b, 0, none⟩ = some (.string a.r.nm)
  c1 : w'.cell? ⟨a.b, 1, none⟩ = some (.int .i64 a.r.fr)
  c2 : w'.cell? ⟨a.b, 2, none⟩ = some (.int .i64 a.r.sz)
  c3 : w'.cell? ⟨a.b, 3, none⟩ = some (.bool a.r.wr)
  c4 : w'.cell? ⟨a.b, 4, none⟩ = some (.bool a.r.ex)
  c5 : w'.cell? ⟨a.b, 5, none⟩ = some a.now
  c6 : w'.cell? ⟨a.b, 6, none⟩ = some a.was
section
variable {bm : Nat} {lv : Value} {a : Area} {w' w2 : World}
theorem CloS.alloc (h : CloS bm lv a w') (o : Obj) : CloS bm lv a (w'.alloc o) :=
  ⟨cell_al h.top o, cell_al h.c0 o, cell_al h.c1 o, cell_al h.c2 o, cell_al h.c3 o, cell_al h.c4 o, cell_al h.c5 o, cell_al h.c6 o⟩
theorem CloS.drew (h : CloS bm lv a w') : CloS bm lv a w'.drew := ⟨h.top, h.c0, h.c1, h.c2, h.c3, h.c4, h.c5, h.c6⟩
theorem CloS.grown {row : Option Nat} (h : CloS bm lv a w') (hg : w'.grownBy w2 row) (h1 : some bm ≠ row) (h2 : some a.b ≠ row) : CloS bm lv a w2 :=
  ⟨hg.cell h.top h1, hg.cell h.c0 h2, hg.cell h.c1 h2, hg.cell h.c2 h2, hg.cell h.c3 h2, hg.cell h.c4 h2, hg.cell h.c5 h2, hg.cell h.c6 h2⟩
theorem cell_bel {w w' : World} {p : Addr} {v : Value} (h : w.cell? p = some v) (hb : Below w.heap.size w w') : w'.cell? p = some v := (hb.cell (cell_lt h)).trans h
theorem CloS.below (h : CloS bm lv a w') (hb : Below w'.heap.size w' w2) : CloS bm lv a w2 :=
  ⟨cell_bel h.top hb, cell_bel h.c0 hb, cell_bel h.c1 hb, cell_bel h.c2 hb, cell_bel h.c3 hb, cell_bel h.c4 hb, cell_bel h.c5 hb, cell_bel h.c6 hb⟩
end
theorem grow_step {w wr W w2 : World} {bm : Nat} {ms : List Area} {a : Area} {lv v' : Value} (hm : MemAt wr bm ms) (hbel : Below w.heap.size w wr) (hbm : w.heap.size ≤ bm) (hv : Blk wr bm 62 #[lv]) (ho : wr.ownsRow w.heap.size 63 1 lv ms.length (ms.map fun a => ptrV a.b))
    (hW : Below wr.heap.size wr W) (ha : AreaAt W a) (hrow : ∀ g ∈ a.rows, wr.heap.size ≤ g) (hnd : a.rows.Nodup) (hfew : ms.length + 1 ≤ 16) (hg : W.grownBy w2 lv.ownBlock)
    (ho2 : w2.ownsRow w.heap.size 63 1 v' (ms.length + 1) ((ms.map fun a => ptrV a.b) ++ [ptrV a.b])) :
    MemAt (w2.setCell ⟨bm, 0, none⟩ v') bm (ms ++ [a]) ∧ Below w.heap.size w (w2.setCell ⟨bm, 0, none⟩ v') ∧ ∃ v, Blk (w2.setCell ⟨bm, 0, none⟩ v') bm 62 #[v] ∧ (w2.setCell ⟨bm, 0, none⟩ v').ownsRow w.heap.size 63 1 v (ms ++ [a]).length ((ms ++ [a]).map fun a => ptrV a.b) := by
  obtain ⟨hm2, hk⟩ := hm.push hv (ownsRow_base ho) hW ha hrow hnd (ownsRow_base ho2) hg hfew
  have hbel2 : Below w.heap.size w (w2.setCell ⟨bm, 0, none⟩ v') := by
    have h1 : Keeps (fun _ => False) w (w2.setCell ⟨bm, 0, none⟩ v') := (keeps_of_below _ hbel).trans hk (fun i hi e => by
      rcases e with e | e
      · have := (ho.lt i e.symm).1; omega
      · omega)
    exact h1.below
  refine ⟨hm2, hbel2, ?_⟩
  have hb2 : Blk w2 bm 62 #[lv] := push_blk hv (ownsRow_base ho) hW hg
  refine ⟨v', by have := hb2.set_ 0 v'; simpa using this, ?_⟩
  have h1 := ownsRow_keeps (w := w2) (w' := w2.setCell ⟨bm, 0, none⟩ v') (F := fun g => g = bm) ho2 ((Keeps.refl (fun g => g = bm) w2).setCell (p := ⟨bm, 0, none⟩) (Or.inr rfl) v') (fun g hg' e => by
    subst e
    rcases ho2.2 with ⟨rfl, _⟩ | ⟨g2, cap, cu, rfl, _, hh, _⟩
    · simp [Value.ownBlock] at hg'
    · have : g2 = g := by simpa [Value.ownBlock] using hg'
      subst this
      exact Blk.ne_ (t := 63) hh hb2 (by decide) rfl)
  simpa using h1
/-- What some rounds of Clone have made. -/
structure CloR (w : World) (bm : Nat) (ms : List Area) (k : Nat) (cs : List Area) (wr : World) : Prop where
  len : cs.length = k
  mem : MemAt wr bm cs
  same : cs.map Area.key = (ms.take k).map Area.key
  bel : Below w.heap.size w wr
  new : ∀ g ∈ rowsOf cs, w.heap.size ≤ g
  top : ∃ v, Blk wr bm 62 #[v] ∧ wr.ownsRow w.heap.size 63 1 v cs.length (cs.map fun a => ptrV a.b)
theorem clo_start (w : World) (ms : List Area) : CloR w w.heap.size ms 0 [] (w.alloc (.cells #[.slice none 0 0] 62)) where
  len := rfl
  mem := ⟨⟨_, Blk.new w 62 _, World.ownsRow_nil _ _ _ _⟩, (fun a ha => by cases ha), List.nodup_nil, by simp⟩
  same := by simp
  bel := (Below.refl _ _).alloc (Nat.le_refl _) _
  new := (fun g hg => by cases hg)
  top := ⟨_, Blk.new w 62 _, World.ownsRow_nil _ _ _ _⟩
/-- The area that a round of Clone makes, in the world in which the row of pointers grows. -/
theorem clo_area {wr w1 w2 : World} {a : Area} {nv wv : Value} (ha : AreaAt wr a) (hb1 : Below wr.heap.size wr w1) (hb2 : Below w1.heap.size w1 w2) (hn : BRow w2 nv a.xs) (hw : BRow w2 wv a.ys)
    (hnn : ∀ g ∈ rowBlk nv a.xs, wr.heap.size ≤ g) (hwn : ∀ g ∈ rowBlk wv a.ys, wr.heap.size ≤ g) (hd : ∀ g ∈ rowBlk nv a.xs, g ∉ rowBlk wv a.ys) :
    Below wr.heap.size wr ((w2.alloc (.cells #[.string a.r.nm, .int .i64 a.r.fr, .int .i64 a.r.sz, .bool a.r.wr, .bool a.r.ex, nv, wv] 67)).alloc (.cells #[.pointer (some ⟨w2.heap.size, 0, none⟩)] 63)) ∧
    AreaAt ((w2.alloc (.cells #[.string a.r.nm, .int .i64 a.r.fr, .int .i64 a.r.sz, .bool a.r.wr, .bool a.r.ex, nv, wv] 67)).alloc (.cells #[.pointer (some ⟨w2.heap.size, 0, none⟩)] 63)) ⟨a.r, w2.heap.size, nv, wv, a.xs, a.ys⟩ ∧
    (∀ g ∈ (⟨a.r, w2.heap.size, nv, wv, a.xs, a.ys⟩ : Area).rows, wr.heap.size ≤ g) ∧ (⟨a.r, w2.heap.size, nv, wv, a.xs, a.ys⟩ : Area).rows.Nodup := by
  have hB : Below wr.heap.size wr w2 := hb1.trans (hb2.mono hb1.size)
  have hA := ((Below.refl w2.heap.size w2).alloc (Nat.le_refl _) (.cells #[.string a.r.nm, .int .i64 a.r.fr, .int .i64 a.r.sz, .bool a.r.wr, .bool a.r.ex, nv, wv] 67)).alloc (by simp) (.cells #[.pointer (some ⟨w2.heap.size, 0, none⟩)] 63)
  refine ⟨hB.trans (hA.mono hB.size), ⟨(Blk.new w2 67 _).alloc _, hn.below hA, hw.below hA, ha.lx, ha.ly, ha.bx, ha.bY, ha.ok⟩, fun g hg => ?_, ?_⟩
  · rcases List.mem_append.1 hg with hg | hg
    · exact hnn g hg
    · exact hwn g hg
  · unfold Area.rows
    have one : ∀ (v : Value) (xs : List Int), (rowBlk v xs).Nodup := fun v xs => by
      unfold rowBlk
      split
      · exact List.nodup_nil
      · cases v.ownBlock <;> simp
    exact List.nodup_append.2 ⟨one _ _, one _ _, fun x hx y hy e => hd x hx (e ▸ hy)⟩
theorem rowBlk_lt {w : World} {v : Value} {xs : List Int} (h : BRow w v xs) {g : Nat} (hg : g ∈ rowBlk v xs) : g < w.heap.size := by
  obtain ⟨cur, hb⟩ := h.blk_of hg
  exact hb.lt
theorem clo_step {w wr W w3 : World} {bm k : Nat} {ms cs : List Area} {a a' : Area} {lv v' : Value} (hR : CloR w bm ms k cs wr) (hbm : w.heap.size ≤ bm) (ha : ms[k]? = some a) (hlen : ms.length ≤ 16) (hv : Blk wr bm 62 #[lv]) (ho : wr.ownsRow w.heap.size 63 1 lv cs.length (cs.map fun a => ptrV a.b))
    (hW : Below wr.heap.size wr W) (hA : AreaAt W a') (hrow : ∀ g ∈ a'.rows, wr.heap.size ≤ g) (hnd : a'.rows.Nodup) (hkey : a'.key = a.key) (hg : W.grownBy w3 lv.ownBlock)
    (ho2 : w3.ownsRow w.heap.size 63 1 v' (cs.length + 1) ((cs.map fun a => ptrV a.b) ++ [ptrV a'.b])) : CloR w bm ms (k + 1) (cs ++ [a']) (w3.setCell ⟨bm, 0, none⟩ v') := by
  obtain ⟨hlt, rfl⟩ := List.getElem?_eq_some_iff.1 ha
  obtain ⟨h1, h2, h3⟩ := grow_step hR.mem hR.bel hbm hv ho hW hA hrow hnd (by rw [hR.len]; omega) hg ho2
  refine ⟨by simp [hR.len], h1, ?_, h2, fun g hg => ?_, h3⟩
  · rw [List.map_append, hR.same, List.take_succ_eq_append_getElem hlt, List.map_append]
    simp [hkey]
  · unfold rowsOf at hg
    rw [List.flatMap_append] at hg
    rcases List.mem_append.1 hg with hg | hg
    · exact hR.new g hg
    · have := hrow g (by simpa using hg)
      have := hR.bel.size
      omega
def CloPost (ms : List Area) (w : World) (e : Ending) (w' : World) : Prop :=
  ∃ bm cs, e = .returned (.pointer (some ⟨bm, 0, none⟩)) ∧ w.heap.size ≤ bm ∧ MemAt w' bm cs ∧ cs.map Area.key = ms.map Area.key ∧ (∀ g ∈ rowsOf cs, w.heap.size ≤ g) ∧ Below w.heap.size w w'

set_option maxRecDepth 100000 in
set_option maxHeartbeats 4000000 in
theorem clone_any (bm : Nat) (ms : List Area) (w : World) (hm : MemAt w bm ms) : Calls Try.prog 10 #[.pointer (some ⟨bm, 0, none⟩)] w (CloPost ms w) := by
  obtain ⟨lv0, hlv0, hown0⟩ := hm.top
  have hc0 : w.cell? ⟨bm, 0, none⟩ = some lv0 := by rw [hlv0.cell]; rfl
  have hbl := hm.lt
  have hfew := hm.few
  obtain ⟨A, cap, hlf, hcap, hmax⟩ := slice_form hown0
  have HM := Lib.hid hm
  obtain ⟨N, hN⟩ : ∃ N, ms.length = N := ⟨_, rfl⟩
  rw [hN] at hfew hcap hlf
  have HN := Lib.hid hN
  have HPC := Lib.hid (ptr_cells hm hlv0)
  have HST := Lib.hid (clo_start w ms)
  subst hlf
  obtain ⟨i0, hi, hz0, hz1, hz2⟩ := info_parts info63f
  have HI := Lib.hid hi
  have HZ0 := Lib.hid hz0
  have HZ1 := Lib.hid hz1
  have HZ2 := Lib.hid hz2
  clear hm hlv0 hown0 hN hi hz0 hz1 hz2
  unfold maxLen at hmax
  go_enter Try.func10, Try.ntmps10
  go_wp2_with fail
  go_loopw [13] (fun i wr => ∃ (k : Nat) (cs : List Area), k ≤ N ∧ i = .int .i64 k ∧ Hid (CloR w w.heap.size ms k cs wr)) (fun i _ => N - (intOf i).toNat)
  case atStart => exact ⟨0, [], Nat.zero_le _, rfl, HST.out⟩
  case round =>
    obtain ⟨k, cs, hk, rfl, HR⟩ := hrel
    by_cases hlt : k < N
    · have hkl : k < ms.length := by rw [HN.out]; exact hlt
      obtain ⟨g, cap', he, _, _, cur, hbg, hcur⟩ := HPC.out (by omega)
      rw [HN.out] at he
      cases he
      have hc1 : wr.cell? ⟨g, k, none⟩ = some (ptrV ms[k].b) := by rw [HR.out.bel.cell (p := ⟨g, k, none⟩) hbg.lt, hbg.cell]; exact hcur k hkl
      have hka : ms[k]? = some ms[k] := List.getElem?_eq_getElem hkl
      have ha := (HM.out.below HR.out.bel).each ms[k] (List.getElem_mem hkl)
      obtain ⟨a, hak⟩ : ∃ a, ms[k] = a := ⟨_, rfl⟩
      rw [hak] at hc1 hka ha
      unfold ptrV at hc1
      obtain ⟨lv, hlv, hown⟩ := HR.out.top
      have cl : wr.cell? ⟨w.heap.size, 0, none⟩ = some lv := by rw [hlv.cell]; rfl
      obtain ⟨hne1, _⟩ := own_ne hlv hown
      have hne2 : some a.b ≠ lv.ownBlock := fun e => by
        obtain ⟨c, hc⟩ := own_kind hown e.symm
        exact Blk.ne_ hc ha.blk (by decide) rfl
      have hS00 : CloS w.heap.size lv a wr := ⟨cl, by rw [ha.blk.cell]; rfl, by rw [ha.blk.cell]; rfl, by rw [ha.blk.cell]; rfl, by rw [ha.blk.cell]; rfl, by rw [ha.blk.cell]; rfl, by rw [ha.blk.cell]; rfl, by rw [ha.blk.cell]; rfl⟩
      have hlx : a.xs.length ≤ 16777216 := by have := ha.lx; have := ha.ok.s1; omega
      have hly : a.ys.length ≤ 16777216 := by have := ha.ly; have := ha.ok.s1; omega
      have hcsl : cs.length + 1 ≤ 16 := by have := HR.out.len; omega
      have hszr := HR.out.bel.size
      have HKA := Lib.hid hka
      have HA := Lib.hid ha
      have HN1 := Lib.hid hne1
      have HN2 := Lib.hid hne2
      have HOWN := Lib.hid hown
      have HLV := Lib.hid hlv
      have HFEW : Hid (ms.length ≤ 16) := by show ms.length ≤ 16; rw [HN.out]; exact hfew
      clear hka hak hown hlv hne1 hne2 ha hbg hcur cl
      go_wp2_with fail
      refine wp_region_late (S := CloS w.heap.size lv a) 25 (by kernel_rfl) hS00.drew (fun hS0 => ?_)
      clear hS00 hc1
      refine wpAnyE_take (i := 0) (v := ?_) rfl (by kernel_rfl) (by kernel_rfl) (by kernel_rfl) 0 (by kernel_rfl) (fun _ _ _ h => h) (by assumption) (Or.inl ⟨by rfl, ?_⟩) ?_
      rotate_left 1
      · intro w' hSw
        obtain ⟨s0, s1, s2, s3, s4, s5, s6, s7⟩ := hSw
        go_simp
        try (with_reducible rfl)
      simp only [Act.put, List.setIfInBounds_toArray, List.set_cons_zero, List.set_cons_succ]
      refine wpAnyE_take (i := 1) (v := ?_) rfl (by kernel_rfl) (by kernel_rfl) (by kernel_rfl) 1 (by kernel_rfl) (fun _ _ _ h => h) (by assumption) (Or.inl ⟨by rfl, ?_⟩) ?_
      rotate_left 1
      · intro w' hSw
        obtain ⟨s0, s1, s2, s3, s4, s5, s6, s7⟩ := hSw
        go_simp
        try (with_reducible rfl)
      simp only [Act.put, List.setIfInBounds_toArray, List.set_cons_zero, List.set_cons_succ]
      refine wpAnyE_take (i := 2) (v := ?_) rfl (by kernel_rfl) (by kernel_rfl) (by kernel_rfl) 2 (by kernel_rfl) (fun _ _ _ h => h) (by assumption) (Or.inl ⟨by rfl, ?_⟩) ?_
      rotate_left 1
      · intro w' hSw
        obtain ⟨s0, s1, s2, s3, s4, s5, s6, s7⟩ := hSw
        go_simp
        try (with_reducible rfl)
      simp only [Act.put, List.setIfInBounds_toArray, List.set_cons_zero, List.set_cons_succ]
      refine wpAnyE_take (i := 3) (v := ?_) rfl (by kernel_rfl) (by kernel_rfl) (by kernel_rfl) 3 (by kernel_rfl) (fun _ _ _ h => h) (by assumption) (Or.inl ⟨by rfl, ?_⟩) ?_
      rotate_left 1
      · intro w' hSw
        obtain ⟨s0, s1, s2, s3, s4, s5, s6, s7⟩ := hSw
        go_simp
        try (with_reducible rfl)
      simp only [Act.put, List.setIfInBounds_toArray, List.set_cons_zero, List.set_cons_succ]
      refine wpAnyE_take (i := 4) (v := ?_) rfl (by kernel_rfl) (by kernel_rfl) (by kernel_rfl) 4 (by kernel_rfl) (fun _ _ _ h => h) (by assumption) (Or.inl ⟨by rfl, ?_⟩) ?_
      rotate_left 1
      · intro w' hSw
        obtain ⟨s0, s1, s2, s3, s4, s5, s6, s7⟩ := hSw
        go_simp
        try (with_reducible rfl)
      simp only [Act.put, List.setIfInBounds_toArray, List.set_cons_zero, List.set_cons_succ]
      refine wpAnyE_take (i := 5) (v := ?_) rfl (by kernel_rfl) (by kernel_rfl) (by kernel_rfl) 5 (by kernel_rfl) (fun _ _ _ h => h) (by assumption) (Or.inl ⟨by rfl, ?_⟩) ?_
      rotate_left 1
      · intro w' hSw
        obtain ⟨s0, s1, s2, s3, s4, s5, s6, s7⟩ := hSw
        go_simp
        try (with_reducible rfl)
      simp only [Act.put, List.setIfInBounds_toArray, List.set_cons_zero, List.set_cons_succ]
      refine wpAnyE_take (i := 6) (v := ?_) rfl (by kernel_rfl) (by kernel_rfl) (by kernel_rfl) 6 (by kernel_rfl) (fun _ _ _ h => h) (by assumption) (Or.inl ⟨by rfl, ?_⟩) ?_
      rotate_left 1
      · intro w' hSw
        obtain ⟨s0, s1, s2, s3, s4, s5, s6, s7⟩ := hSw
        go_simp
        try (with_reducible rfl)
      simp only [Act.put, List.setIfInBounds_toArray, List.set_cons_zero, List.set_cons_succ]
      refine wpAnyE_take (i := 7) (v := ?_) rfl (by kernel_rfl) (by kernel_rfl) (by kernel_rfl) 7 (by kernel_rfl) (fun _ _ _ h => h) (by assumption) (Or.inl ⟨by rfl, ?_⟩) ?_
      rotate_left 1
      · intro w' hSw
        obtain ⟨s0, s1, s2, s3, s4, s5, s6, s7⟩ := hSw
        go_simp
        try (with_reducible rfl)
      simp only [Act.put, List.setIfInBounds_toArray, List.set_cons_zero, List.set_cons_succ]
      refine wpAnyE_take (i := 8) (v := ?_) rfl (by kernel_rfl) (by kernel_rfl) (by kernel_rfl) 8 (by kernel_rfl) (fun _ _ _ h => h) (by assumption) (Or.inl ⟨by rfl, ?_⟩) ?_
      rotate_left 1
      · intro w' hSw
        obtain ⟨s0, s1, s2, s3, s4, s5, s6, s7⟩ := hSw
        go_simp
        try (with_reducible rfl)
      simp only [Act.put, List.setIfInBounds_toArray, List.set_cons_zero, List.set_cons_succ]
      refine wpAnyE_take (i := 9) (v := ?_) rfl (by kernel_rfl) (by kernel_rfl) (by kernel_rfl) 9 (by kernel_rfl) (fun _ _ _ h => h) (by assumption) (Or.inl ⟨by rfl, ?_⟩) ?_
      rotate_left 1
      · intro w' hSw
        obtain ⟨s0, s1, s2, s3, s4, s5, s6, s7⟩ := hSw
        go_simp
        try (with_reducible rfl)
      simp only [Act.put, List.setIfInBounds_toArray, List.set_cons_zero, List.set_cons_succ]
      refine wpAnyE_take (i := 10) (v := ?_) rfl (by kernel_rfl) (by kernel_rfl) (by kernel_rfl) 10 (by kernel_rfl) (fun _ _ _ h => h) (by assumption) (Or.inl ⟨by rfl, ?_⟩) ?_
      rotate_left 1
      · intro w' hSw
        obtain ⟨s0, s1, s2, s3, s4, s5, s6, s7⟩ := hSw
        go_simp
        try (with_reducible rfl)
      simp only [Act.put, List.setIfInBounds_toArray, List.set_cons_zero, List.set_cons_succ]
      refine wpAnyE_take (i := 11) (v := ?_) rfl (by kernel_rfl) (by kernel_rfl) (by kernel_rfl) 11 (by kernel_rfl) (fun _ _ _ h => h) (by assumption) (Or.inl ⟨by rfl, ?_⟩) ?_
      rotate_left 1
      · intro w' hSw
        obtain ⟨s0, s1, s2, s3, s4, s5, s6, s7⟩ := hSw
        go_simp
        try (with_reducible rfl)
      simp only [Act.put, List.setIfInBounds_toArray, List.set_cons_zero, List.set_cons_succ]
      refine wpAnyE_take (i := 12) (v := ?_) rfl (by kernel_rfl) (by kernel_rfl) (by kernel_rfl) 12 (by kernel_rfl) (fun _ _ _ h => h) (by assumption) (Or.inl ⟨by rfl, ?_⟩) ?_
      rotate_left 1
      · intro w' hSw
        obtain ⟨s0, s1, s2, s3, s4, s5, s6, s7⟩ := hSw
        go_simp
        try (with_reducible rfl)
      simp only [Act.put, List.setIfInBounds_toArray, List.set_cons_zero, List.set_cons_succ]
      refine wpAnyE_take (i := 14) (v := ?_) rfl (by kernel_rfl) (by kernel_rfl) (by kernel_rfl) 14 (by kernel_rfl) (fun _ _ _ h => h) (by assumption) (Or.inl ⟨by rfl, ?_⟩) ?_
      rotate_left 1
      · intro w' hSw
        obtain ⟨s0, s1, s2, s3, s4, s5, s6, s7⟩ := hSw
        go_simp
        try (with_reducible rfl)
      simp only [Act.put, List.setIfInBounds_toArray, List.set_cons_zero, List.set_cons_succ]
      refine wpAnyE_take (i := 15) (v := ?_) rfl (by kernel_rfl) (by kernel_rfl) (by kernel_rfl) 15 (by kernel_rfl) (fun _ _ _ h => h) (by assumption) (Or.inl ⟨by rfl, ?_⟩) ?_
      rotate_left 1
      · intro w' hSw
        obtain ⟨s0, s1, s2, s3, s4, s5, s6, s7⟩ := hSw
        go_simp
        try (with_reducible rfl)
      simp only [Act.put, List.setIfInBounds_toArray, List.set_cons_zero, List.set_cons_succ]
      refine wpAnyE_take (i := 16) (v := ?_) rfl (by kernel_rfl) (by kernel_rfl) (by kernel_rfl) 16 (by kernel_rfl) (fun _ _ _ h => h) (by assumption) (Or.inl ⟨by rfl, ?_⟩) ?_
      rotate_left 1
      · intro w' hSw
        obtain ⟨s0, s1, s2, s3, s4, s5, s6, s7⟩ := hSw
        go_simp
        try (with_reducible rfl)
      simp only [Act.put, List.setIfInBounds_toArray, List.set_cons_zero, List.set_cons_succ]
      refine wpAnyE_take (i := 17) (v := ?_) rfl (by kernel_rfl) (by kernel_rfl) (by kernel_rfl) 17 (by kernel_rfl) (fun _ _ _ h => h) (by assumption) (Or.inl ⟨by rfl, ?_⟩) ?_
      rotate_left 1
      · intro w' hSw
        obtain ⟨s0, s1, s2, s3, s4, s5, s6, s7⟩ := hSw
        go_simp
        try (with_reducible rfl)
      simp only [Act.put, List.setIfInBounds_toArray, List.set_cons_zero, List.set_cons_succ]
      refine wpAnyE_ready (rs := [13]) (by kernel_rfl) (by simp) ?_
      refine AllReadyE.cons rfl (fun K hK => ?_) AllReadyE.nil
      · skip
        go_simp
        refine (clone_brow a.now a.xs _ (BRow.keeps HA.out.now (Keeps.refl (fun _ => False) wr).drew (fun _ _ e => e)) hlx).mono ?_
        rintro e w1 ⟨v1, rfl, hbr1, hnw1, hb1⟩
        refine hK.out _ _ (fun _ => hS0.below hb1) (fun hSq => ?_)
        have hS1 := hSq (by decide)
        clear hSq hK K
        try simp only [Act.put, List.setIfInBounds_toArray, List.set_cons_zero, List.set_cons_succ]
        refine wpAnyE_ready (rs := [18]) (by kernel_rfl) (by simp) ?_
        refine AllReadyE.cons rfl (fun K hK => ?_) AllReadyE.nil
        go_simp
        refine (clone_brow a.was a.ys _ (BRow.below (w := wr.drew) (BRow.keeps HA.out.was (Keeps.refl (fun _ => False) wr).drew (fun _ _ e => e)) hb1) hly).mono ?_
        rintro e w2 ⟨v2, rfl, hbr2, hnw2, hb2⟩
        refine hK.out _ _ (fun _ => hS1.below hb2) (fun hSq => ?_)
        have hS2 := hSq (by decide)
        clear hSq hK K
        try simp only [Act.put, List.setIfInBounds_toArray, List.set_cons_zero, List.set_cons_succ]
        have hb1' : Below wr.heap.size wr w1 := (((Below.refl wr.heap.size wr).drew).trans hb1)
        obtain ⟨hBW, hAW, hrow, hnd⟩ := clo_area (nv := v1) (wv := v2) HA.out hb1' hb2 (hbr1.below hb2) hbr2 hnw1 (fun g hg => Nat.le_trans hb1.size (hnw2 g hg)) (fun g hg hg2 => by have := rowBlk_lt hbr1 hg; have := hnw2 g hg2; omega)
        have HOWN2 := Lib.hid ((HOWN.out.kept (row := none) ⟨hb1'.os, hb1'.tape, hb1'.output, hb1'.size, fun i hi _ => hb1'.block i hi⟩ (by cases lv.ownBlock <;> simp)).kept (row := none) ⟨hb2.os, hb2.tape, hb2.output, hb2.size, fun i hi _ => hb2.block i hi⟩ (by cases lv.ownBlock <;> simp))
        have hsz2 : w.heap.size ≤ w2.heap.size := Nat.le_trans hszr (Nat.le_trans hb1'.size hb2.size)
        obtain ⟨A1, cap1, hv1⟩ := brow_shape hbr1
        obtain ⟨A2, cap2, hv2⟩ := brow_shape hbr2
        have HBW := Lib.hid hBW
        have HAW := Lib.hid hAW
        have HROW := Lib.hid hrow
        have HND := Lib.hid hnd
        clear hBW hAW hrow hnd hbr1 hbr2 hnw1 hnw2 hb1 hb2 hb1'
        subst hv1 hv2
        refine wpAnyE_take (i := 19) (v := ?_) rfl (by kernel_rfl) (by kernel_rfl) (by kernel_rfl) 19 (by kernel_rfl) (fun _ _ _ h => h) (by assumption) (Or.inl ⟨by rfl, ?_⟩) ?_
        rotate_left 1
        · intro w' hSw
          obtain ⟨s0, s1, s2, s3, s4, s5, s6, s7⟩ := hSw
          go_simp
          try (with_reducible rfl)
        simp only [Act.put, List.setIfInBounds_toArray, List.set_cons_zero, List.set_cons_succ]
        refine wpAnyE_ready (rs := [20]) (by kernel_rfl) (by simp) ?_
        refine AllReadyE.cons rfl (fun K hK => ?_) AllReadyE.nil
        go_simp
        refine hK.out _ _ (fun _ => ?_) (fun hSq => ?_)
        · first | exact hS2.alloc _ | exact (hS2.alloc _).drew
        have hS3 := hSq (by decide)
        clear hSq hK K
        try simp only [Act.put, List.setIfInBounds_toArray, List.set_cons_zero, List.set_cons_succ]
        refine wpAnyE_ready (rs := [21]) (by kernel_rfl) (by simp) ?_
        refine AllReadyE.cons rfl (fun K hK => ?_) AllReadyE.nil
        go_simp
        refine hK.out _ _ (fun _ => ?_) (fun hSq => ?_)
        · first | exact hS3.alloc _ | exact (hS3.alloc _).drew
        have hS4 := hSq (by decide)
        clear hSq hK K
        try simp only [Act.put, List.setIfInBounds_toArray, List.set_cons_zero, List.set_cons_succ]
        refine wpAnyE_ready (rs := [22]) (by kernel_rfl) (by simp) ?_
        refine AllReadyE.cons rfl (fun K hK => ?_) AllReadyE.nil
        refine step_append_own rfl (.tmp 21) (.tmp 38) 60 rfl w.heap.size 63 i0 (.pointer none) 1 8 Try.underlying60 HI.out HZ0.out HZ1.out HZ2.out rfl (by decide) lv cs.length (cs.map fun a => ptrV a.b) rfl (by repeat (first | exact HOWN2.out | apply World.ownsRow.drew | apply World.ownsRow.alloc)) ⟨w2.heap.size + 1, 0, none⟩ 1 1 [.pointer (some ⟨w2.heap.size, 0, none⟩)] rfl rfl (by first | exact news_one _ _ _ (by simp) | exact news_one_drew _ _ _ (by simp)) (by intro u hu; simp at hu; subst hu; rfl) (by unfold maxLen; omega) (by omega) (by simp; omega) ?_
        intro v' w3 hown3 hgrow3 hnil3
        refine hK.out _ _ (fun _ => hS4.grown hgrow3 HN1.out HN2.out) (fun hSq => ?_)
        have hS5 := hSq (by decide)
        clear hSq hK K hS0 hS1 hS2 hS3 hS4
        try simp only [Act.put, List.setIfInBounds_toArray, List.set_cons_zero, List.set_cons_succ]
        obtain ⟨g3, cap3, hv3⟩ := row_shape hown3
        subst hv3
        have hfl3 : w3.frozen? ⟨w.heap.size, 0, none⟩ = false := (push_blk HLV.out (ownsRow_base HOWN.out) HBW.out hgrow3).frozen 0
        have HFIN := Lib.hid (clo_step HR.out (Nat.le_refl _) HKA.out HFEW.out HLV.out HOWN.out HBW.out HAW.out HROW.out HND.out rfl hgrow3 hown3)
        clear hgrow3 hnil3 hown3
        have hct := hS5.top
        refine wpAnyE_ready (rs := [23]) (by kernel_rfl) (by simp) ?_
        refine AllReadyE.cons rfl (fun K hK => ?_) AllReadyE.nil
        go_simp
        refine hK.out _ _ (fun _ => hS5) (fun _ => ?_)
        clear hK K
        try simp only [Act.put, List.setIfInBounds_toArray, List.set_cons_zero, List.set_cons_succ]
        refine wpAnyE_ready (rs := [24]) (by kernel_rfl) (by simp) ?_
        refine AllReadyE.cons rfl (fun K hK => ?_) AllReadyE.nil
        go_simp
        refine hK.out _ _ (fun _ => hS5) (fun _ => ?_)
        clear hK K
        try simp only [Act.put, List.setIfInBounds_toArray, List.set_cons_zero, List.set_cons_succ]
        refine wpAnyE_ready (rs := [25]) (by kernel_rfl) (by simp) ?_
        refine AllReadyE.cons rfl (fun K hK => ?_) AllReadyE.nil
        go_simp
        refine hK.out _ _ (fun h => absurd rfl h) (fun _ => ?_)
        clear hK K
        try simp only [Act.put, List.setIfInBounds_toArray, List.set_cons_zero, List.set_cons_succ]
        refine wpAnyE_done (by kernel_rfl) ?_ _
        clear hct hfl3 hS5
        go_wp2_with fail
        go_roundw
        case rel => exact ⟨k + 1, _, by omega, by go_num, HFIN.out⟩
        case measure => simp [intOf]; omega
    · have hfin : CloPost ms w (.returned (.pointer (some ⟨w.heap.size, 0, none⟩))) wr := by
        have hs := HR.out.same
        rw [List.take_of_length_le (by rw [HN.out]; omega)] at hs
        exact ⟨_, cs, rfl, Nat.le_refl _, HR.out.mem, hs, HR.out.new, HR.out.bel⟩
      have HFIN := Lib.hid hfin
      clear hfin
      go_wp2_with fail
      go_ret
      exact HFIN.out
end Go.Proofs.Ytbffclcjhcbejaa
