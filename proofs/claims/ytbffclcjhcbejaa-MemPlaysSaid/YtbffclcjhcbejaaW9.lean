/- Walks: mem.New. Conditions: names within the model's lengths. -/
import Derived.Test.YtbffclcjhcbejaaNewL
namespace Go.Proofs.Ytbffclcjhcbejaa
open Go.RowKit

theorem info63f : (Try.prog.info? 63).map (fun i => (i.zero, i.size, i.bytes)) = some (some (.pointer none), 1, 8) := by kernel_rfl
theorem make_run (w : World) (n : Nat) (hn : n ≤ 16777216) : (Instr.makeSlice 33 (.int .i64 (n : Int)) (.int .i64 (n : Int))).run Try.prog w = .ok (.slice (some ⟨w.heap.size, 0, none⟩) n n) (w.alloc (.cells (madeCells #[.int .u8 0] n) 5)) := by
  obtain ⟨i0, hi, hz0, hz1, hz2⟩ := info_parts info5f
  have h := run_make (P := Try.prog) w 33 5 i0 (.int .u8 0) Try.underlying33 hi hz0 .i64 .i64 (n : Int) (n : Int) (by omega) (Int.le_refl _) (by rw [hz2]; omega) (by omega)
  have e : ((n : Int)).toNat = n := by omega
  rw [e] at h
  simpa [hz1, Value.cells] using h
theorem news_one (X : World) (p : Value) (n : Nat) (hn : n = X.heap.size) : ∀ j u, [p][j]? = some u → (X.alloc (.cells #[p] 63)).cell? ((⟨n, 0, none⟩ : Addr).add j) = some u := by
  subst hn
  intro j u hj
  rw [addr_add, Nat.zero_add, (Blk.new X 63 #[p]).cell]
  simpa using hj
theorem news_one_drew (X : World) (p : Value) (n : Nat) (hn : n = X.heap.size) : ∀ j u, [p][j]? = some u → (X.alloc (.cells #[p] 63)).drew.cell? ((⟨n, 0, none⟩ : Addr).add j) = some u := news_one X p n hn
/-- Memory of noughts over these ranges. -/
structure Fresh (w : World) (rs : List Rng) (ms : List Area) : Prop where
  ranges : ms.map (·.r) = rs
  zero : ∀ a ∈ ms, a.xs = List.replicate a.xs.length 0 ∧ a.ys = a.xs
  new : ∀ g ∈ rowsOf ms, w.heap.size ≤ g

def NewPost (rs : List Rng) (w : World) (e : Ending) (w' : World) : Prop :=
  Below w.heap.size w w' ∧ ((chkR rs ≠ 0 ∧ e = .returned (.tuple #[.pointer none, .int .i64 (chkR rs)])) ∨
    (chkR rs = 0 ∧ ∃ bm ms, e = .returned (.tuple #[.pointer (some ⟨bm, 0, none⟩), .int .i64 0]) ∧ w.heap.size ≤ bm ∧ MemAt w' bm ms ∧ Fresh w rs ms))
/-- What the statement 'm.l = append(m.l, &area{..})' reads: memory's own cell, and the range. -/
structure NewS (bm : Nat) (lv : Value) (b : Nat) (r : Rng) (z : Nat) (w' : World) : Prop where
  top : w'.cell? ⟨bm, 0, none⟩ = some lv
  r0 : w'.cell? ⟨b, 0, none⟩ = some (.string r.nm)
  r1 : w'.cell? ⟨b, 1, none⟩ = some (.int .i64 r.fr)
  r2 : w'.cell? ⟨b, 2, none⟩ = some (.int .i64 (z : Int))
  r3 : w'.cell? ⟨b, 3, none⟩ = some (.bool r.wr)
  r4 : w'.cell? ⟨b, 4, none⟩ = some (.bool r.ex)
theorem cell_al {w : World} {a : Addr} {v : Value} (h : w.cell? a = some v) (o : Obj) : (w.alloc o).cell? a = some v := (World.cell?_alloc_some w a o (by rw [h]; rfl)).trans h
section
variable {bm : Nat} {lv : Value} {b : Nat} {r : Rng} {z : Nat} {w' w2 : World}
theorem NewS.alloc (h : NewS bm lv b r z w') (o : Obj) : NewS bm lv b r z (w'.alloc o) :=
  ⟨cell_al h.top o, cell_al h.r0 o, cell_al h.r1 o, cell_al h.r2 o, cell_al h.r3 o, cell_al h.r4 o⟩
theorem NewS.drew (h : NewS bm lv b r z w') : NewS bm lv b r z w'.drew := ⟨h.top, h.r0, h.r1, h.r2, h.r3, h.r4⟩
theorem NewS.grown {row : Option Nat} (h : NewS bm lv b r z w') (hg : w'.grownBy w2 row) (h1 : some bm ≠ row) (h2 : some b ≠ row) : NewS bm lv b r z w2 :=
  ⟨hg.cell h.top h1, hg.cell h.r0 h2, hg.cell h.r1 h2, hg.cell h.r2 h2, hg.cell h.r3 h2, hg.cell h.r4 h2⟩
end
theorem ownsRow_base {w : World} {B : Nat} {e : TypeId} {size : Nat} {v : Value} {n : Nat} {xs : List Value} (h : w.ownsRow B e size v n xs) : w.ownsRow 0 e size v n xs :=
  ⟨h.1, h.2.imp id fun ⟨g, cap, cur, h1, _, r⟩ => ⟨g, cap, cur, h1, Nat.zero_le _, r⟩⟩
/-- What one round of New has made. -/
structure NewR (w : World) (bm : Nat) (rs : List Rng) (k : Nat) (ms : List Area) (wr : World) : Prop where
  len : ms.length = k
  mem : MemAt wr bm ms
  fresh : Fresh w (rs.take k) ms
  bel : Below w.heap.size w wr
  top : ∃ v, Blk wr bm 62 #[v] ∧ wr.ownsRow w.heap.size 63 1 v ms.length (ms.map fun a => ptrV a.b)
theorem new_start (w w1 : World) (rs : List Rng) (hb : Below w.heap.size w w1) : NewR w w1.heap.size rs 0 [] (w1.alloc (.cells #[.slice none 0 0] 62)) where
  len := rfl
  mem := ⟨⟨_, Blk.new w1 62 _, World.ownsRow_nil _ _ _ _⟩, (fun a ha => by cases ha), List.nodup_nil, by simp⟩
  fresh := ⟨by simp, (fun a ha => by cases ha), (fun g hg => by cases hg)⟩
  bel := hb.alloc hb.size _
  top := ⟨_, Blk.new w1 62 _, World.ownsRow_nil _ _ _ _⟩
theorem new_step {w wr w2 : World} {bm k z n s : Nat} {rs : List Rng} {r : Rng} {ms : List Area} {lv v' : Value} (hR : NewR w bm rs k ms wr) (hbm : w.heap.size ≤ bm) (hr : rs[k]? = some r) (hlen : rs.length ≤ 16) (hz : r.sz = z) (hok : r.Ok) (hn : n = 1 ∧ s = 2 ∨ n = 2 ∧ s = 1)
    (hv : Blk wr bm 62 #[lv]) (ho : wr.ownsRow w.heap.size 63 1 lv ms.length (ms.map fun a => ptrV a.b)) (hg : (newW wr r z n s).drew.grownBy w2 lv.ownBlock)
    (ho2 : w2.ownsRow w.heap.size 63 1 v' (ms.length + 1) ((ms.map fun a => ptrV a.b) ++ [.pointer (some ⟨wr.heap.size + 3, 0, none⟩)])) : NewR w bm rs (k + 1) (ms ++ [newA wr r z n s]) (w2.setCell ⟨bm, 0, none⟩ v') := by
  obtain ⟨hlt, rfl⟩ := List.getElem?_eq_some_iff.1 hr
  have hW : Below wr.heap.size wr (newW wr rs[k] z n s).drew := (newW_below wr rs[k] z n s).drew
  have ha : AreaAt (newW wr rs[k] z n s).drew (newA wr rs[k] z n s) := (newA_at wr rs[k] z n s hn hok hz).keeps (F := fun _ => False) ((Keeps.refl _ _).drew) (fun e => e) (fun _ _ e => e)
  obtain ⟨hrow, hnd⟩ := newA_rows wr rs[k] z n s hn
  have hfew : ms.length + 1 ≤ 16 := by rw [hR.len]; omega
  obtain ⟨hm, hk⟩ := hR.mem.push hv (ownsRow_base ho) hW ha hrow hnd (ownsRow_base ho2) hg hfew
  have hbel : Below w.heap.size w (w2.setCell ⟨bm, 0, none⟩ v') := by
    have h1 : Keeps (fun _ => False) w (w2.setCell ⟨bm, 0, none⟩ v') := (keeps_of_below _ hR.bel).trans hk (fun i hi e => by
      rcases e with e | e
      · have := (ho.lt i e.symm).1; omega
      · omega)
    exact h1.below
  refine ⟨by simp [hR.len], hm, ⟨?_, fun a ha => ?_, fun g hg => ?_⟩, hbel, ?_⟩
  · rw [List.map_append, hR.fresh.ranges, List.take_succ_eq_append_getElem hlt]
    rfl
  · rcases List.mem_append.1 ha with ha | ha
    · exact hR.fresh.zero a ha
    · obtain rfl : a = newA wr rs[k] z n s := by simpa using ha
      simp [newA]
  · unfold rowsOf at hg
    rw [List.flatMap_append] at hg
    rcases List.mem_append.1 hg with hg | hg
    · exact hR.fresh.new g hg
    · have := hrow g (by simpa using hg)
      have := hR.bel.size
      omega
  · have hb2 : Blk w2 bm 62 #[lv] := push_blk hv (ownsRow_base ho) hW hg
    refine ⟨v', by have := hb2.set_ 0 v'; simpa using this, ?_⟩
    have h1 := ownsRow_keeps (w := w2) (w' := w2.setCell ⟨bm, 0, none⟩ v') (F := fun g => g = bm) ho2 ((Keeps.refl (fun g => g = bm) w2).setCell (p := ⟨bm, 0, none⟩) (Or.inr rfl) v') (fun g hg' e => by
      subst e
      rcases ho2.2 with ⟨rfl, _⟩ | ⟨g2, cap, cu, rfl, _, hh, _⟩
      · simp [Value.ownBlock] at hg'
      · have : g2 = g := by simpa [Value.ownBlock] using hg'
        subst this
        exact Blk.ne_ (t := 63) hh hb2 (by decide) rfl)
    simpa [ptrV, newA] using h1
theorem own_ne {wr : World} {B bm : Nat} {lv : Value} {n : Nat} {xs : List Value} (hv : Blk wr bm 62 #[lv]) (ho : wr.ownsRow B 63 1 lv n xs) : some bm ≠ lv.ownBlock ∧ some wr.heap.size ≠ lv.ownBlock := by
  constructor
  · intro e
    rcases ho.2 with ⟨rfl, _⟩ | ⟨g', cap, cur, rfl, _, hh, _⟩
    · simp [Value.ownBlock] at e
    · have : bm = g' := by simpa [Value.ownBlock] using e
      subst this
      exact absurd (Blk.ne_ (t := 63) hh hv (by decide)) (by simp)
  · intro e
    have := (ho.lt _ e.symm).2
    omega

set_option maxRecDepth 100000 in
set_option maxHeartbeats 4000000 in
theorem new_some (g off cap : Nat) (rs : List Rng) (w : World) (hlen : rs.length ≤ 16) (hn2 : rs.length ≤ cap) (hcap : cap ≤ maxLen) (hg : g < w.heap.size) (hc : RCells w g off rs) (hnm : ∀ r ∈ rs, r.nm.size ≤ maxLen) (hchk : chkR rs = 0) :
    Calls Try.prog 7 #[.slice (some ⟨g, off, none⟩) rs.length cap] w (NewPost rs w) := by
  have HCON := Lib.hid (check_some g off cap rs w hlen hn2 hcap hg hc hnm)
  have HC := Lib.hid hc
  have HCHK := Lib.hid hchk
  have hok : ∀ k (h : k < rs.length), (rs[k]).Ok := by
    intro k hk
    have h1 : chkAll rs = true := by
      unfold chkR at hchk
      rw [if_neg (by omega)] at hchk
      cases h : chkAll rs with
      | true => rfl
      | false => rw [h] at hchk; simp at hchk
    have h2 := List.all_eq_true.1 h1 k (List.mem_range.2 hk)
    rw [okAt_lt hk] at h2
    simp at h2
    exact rngB_ok h2.1
  have HOK := Lib.hid hok
  have HLEN := Lib.hid hlen
  clear hc hnm hok hchk
  unfold maxLen at hcap
  obtain ⟨i0, hi, hz0, hz1, hz2⟩ := info_parts info63f
  have HI := Lib.hid hi
  have HZ0 := Lib.hid hz0
  have HZ1 := Lib.hid hz1
  have HZ2 := Lib.hid hz2
  clear hi hz0 hz1 hz2
  obtain ⟨N, hN⟩ : ∃ N, rs.length = N := ⟨_, rfl⟩
  rw [hN] at hlen hn2 HCON ⊢
  have HN := Lib.hid hN
  clear hN
  go_enter Try.func7, Try.ntmps7
  go_wp2_with fail
  refine HCON.out.mono ?_
  rintro e w1 ⟨rfl, hb1⟩
  rw [HCHK.out]
  have hbm := hb1.size
  have HST := Lib.hid (new_start w w1 rs hb1)
  clear hb1
  go_wp2_with fail
  go_loopw [17] (fun i wr => ∃ (k : Nat) (ms : List Area), k ≤ N ∧ i = .int .i64 k ∧ Hid (NewR w w1.heap.size rs k ms wr)) (fun i _ => N - (intOf i).toNat)
  case atStart => exact ⟨0, [], Nat.zero_le _, rfl, HST.out⟩
  case round =>
    obtain ⟨k, ms, hk, rfl, HR⟩ := hrel
    by_cases hlt : k < N
    · have hkl : k < rs.length := by rw [HN.out]; exact hlt
      obtain ⟨c0, c1, c2, c3, c4⟩ := (HC.out.below HR.out.bel hg).five hkl
      have hOk := HOK.out k hkl
      have hrk : rs[k]? = some rs[k] := List.getElem?_eq_getElem hkl
      obtain ⟨r, hr⟩ : ∃ r, rs[k] = r := ⟨_, rfl⟩
      rw [hr] at c0 c1 c2 c3 c4 hOk hrk
      have HRK := Lib.hid hrk
      have HOK2 := Lib.hid hOk
      have hmk16 : ms.length + 1 ≤ 16 := by have := HR.out.len; omega
      have hszr := HR.out.bel.size
      obtain ⟨lv, hlv, hown⟩ := HR.out.top
      have cl : wr.cell? ⟨w1.heap.size, 0, none⟩ = some lv := by rw [hlv.cell]; rfl
      obtain ⟨hne1, hne2⟩ := own_ne hlv hown
      obtain ⟨z, hz⟩ : ∃ z : Nat, r.sz = z := ⟨r.sz.toNat, by have := hOk.s0; omega⟩
      have hmk := fun W => make_run W z (by have := hOk.s1; omega)
      rw [hz] at c2
      have HN1 := Lib.hid hne1
      have HN2 := Lib.hid hne2
      have HOWN := Lib.hid hown
      have HLV := Lib.hid hlv
      have HZ := Lib.hid hz
      clear hr hz hown hlv hrk hOk hne1 hne2
      go_wp2_with fail
      have hS00 : NewS w1.heap.size lv wr.heap.size r z (wr.alloc (.cells #[.string r.nm, .int .i64 r.fr, .int .i64 (z : Int), .bool r.wr, .bool r.ex] 30)) := ⟨cell_al cl _, ((Blk.new wr 30 _).cell 0).trans rfl, ((Blk.new wr 30 _).cell 1).trans rfl, ((Blk.new wr 30 _).cell 2).trans rfl, ((Blk.new wr 30 _).cell 3).trans rfl, ((Blk.new wr 30 _).cell 4).trans rfl⟩
      refine wp_region_late (S := NewS w1.heap.size lv wr.heap.size r z) 19 (by kernel_rfl) hS00.drew (fun hS0 => ?_)
      clear hS00 cl c0 c1 c2 c3 c4
      refine wpAnyE_take (i := 0) (v := ?_) rfl (by kernel_rfl) (by kernel_rfl) (by kernel_rfl) 0 (by kernel_rfl) (fun _ _ _ h => h) (by assumption) (Or.inl ⟨by rfl, ?_⟩) ?_
      rotate_left 1
      · intro w' hSw
        obtain ⟨s0, s1, s2, s3, s4, s5⟩ := hSw
        go_simp
        try (with_reducible rfl)
      simp only [Act.put, List.setIfInBounds_toArray, List.set_cons_zero, List.set_cons_succ]
      refine wpAnyE_take (i := 1) (v := ?_) rfl (by kernel_rfl) (by kernel_rfl) (by kernel_rfl) 1 (by kernel_rfl) (fun _ _ _ h => h) (by assumption) (Or.inl ⟨by rfl, ?_⟩) ?_
      rotate_left 1
      · intro w' hSw
        obtain ⟨s0, s1, s2, s3, s4, s5⟩ := hSw
        go_simp
        try (with_reducible rfl)
      simp only [Act.put, List.setIfInBounds_toArray, List.set_cons_zero, List.set_cons_succ]
      refine wpAnyE_take (i := 2) (v := ?_) rfl (by kernel_rfl) (by kernel_rfl) (by kernel_rfl) 2 (by kernel_rfl) (fun _ _ _ h => h) (by assumption) (Or.inl ⟨by rfl, ?_⟩) ?_
      rotate_left 1
      · intro w' hSw
        obtain ⟨s0, s1, s2, s3, s4, s5⟩ := hSw
        go_simp
        try (with_reducible rfl)
      simp only [Act.put, List.setIfInBounds_toArray, List.set_cons_zero, List.set_cons_succ]
      refine wpAnyE_take (i := 3) (v := ?_) rfl (by kernel_rfl) (by kernel_rfl) (by kernel_rfl) 3 (by kernel_rfl) (fun _ _ _ h => h) (by assumption) (Or.inl ⟨by rfl, ?_⟩) ?_
      rotate_left 1
      · intro w' hSw
        obtain ⟨s0, s1, s2, s3, s4, s5⟩ := hSw
        go_simp
        try (with_reducible rfl)
      simp only [Act.put, List.setIfInBounds_toArray, List.set_cons_zero, List.set_cons_succ]
      refine wpAnyE_take (i := 4) (v := ?_) rfl (by kernel_rfl) (by kernel_rfl) (by kernel_rfl) 4 (by kernel_rfl) (fun _ _ _ h => h) (by assumption) (Or.inl ⟨by rfl, ?_⟩) ?_
      rotate_left 1
      · intro w' hSw
        obtain ⟨s0, s1, s2, s3, s4, s5⟩ := hSw
        go_simp
        try (with_reducible rfl)
      simp only [Act.put, List.setIfInBounds_toArray, List.set_cons_zero, List.set_cons_succ]
      refine wpAnyE_take (i := 5) (v := ?_) rfl (by kernel_rfl) (by kernel_rfl) (by kernel_rfl) 5 (by kernel_rfl) (fun _ _ _ h => h) (by assumption) (Or.inl ⟨by rfl, ?_⟩) ?_
      rotate_left 1
      · intro w' hSw
        obtain ⟨s0, s1, s2, s3, s4, s5⟩ := hSw
        go_simp
        try (with_reducible rfl)
      simp only [Act.put, List.setIfInBounds_toArray, List.set_cons_zero, List.set_cons_succ]
      refine wpAnyE_take (i := 6) (v := ?_) rfl (by kernel_rfl) (by kernel_rfl) (by kernel_rfl) 6 (by kernel_rfl) (fun _ _ _ h => h) (by assumption) (Or.inl ⟨by rfl, ?_⟩) ?_
      rotate_left 1
      · intro w' hSw
        obtain ⟨s0, s1, s2, s3, s4, s5⟩ := hSw
        go_simp
        try (with_reducible rfl)
      simp only [Act.put, List.setIfInBounds_toArray, List.set_cons_zero, List.set_cons_succ]
      refine wpAnyE_take (i := 7) (v := ?_) rfl (by kernel_rfl) (by kernel_rfl) (by kernel_rfl) 7 (by kernel_rfl) (fun _ _ _ h => h) (by assumption) (Or.inl ⟨by rfl, ?_⟩) ?_
      rotate_left 1
      · intro w' hSw
        obtain ⟨s0, s1, s2, s3, s4, s5⟩ := hSw
        go_simp
        try (with_reducible rfl)
      simp only [Act.put, List.setIfInBounds_toArray, List.set_cons_zero, List.set_cons_succ]
      refine wpAnyE_take (i := 8) (v := ?_) rfl (by kernel_rfl) (by kernel_rfl) (by kernel_rfl) 8 (by kernel_rfl) (fun _ _ _ h => h) (by assumption) (Or.inl ⟨by rfl, ?_⟩) ?_
      rotate_left 1
      · intro w' hSw
        obtain ⟨s0, s1, s2, s3, s4, s5⟩ := hSw
        go_simp
        try (with_reducible rfl)
      simp only [Act.put, List.setIfInBounds_toArray, List.set_cons_zero, List.set_cons_succ]
      refine wpAnyE_take (i := 10) (v := ?_) rfl (by kernel_rfl) (by kernel_rfl) (by kernel_rfl) 10 (by kernel_rfl) (fun _ _ _ h => h) (by assumption) (Or.inl ⟨by rfl, ?_⟩) ?_
      rotate_left 1
      · intro w' hSw
        obtain ⟨s0, s1, s2, s3, s4, s5⟩ := hSw
        go_simp
        try (with_reducible rfl)
      simp only [Act.put, List.setIfInBounds_toArray, List.set_cons_zero, List.set_cons_succ]
      refine wpAnyE_take (i := 11) (v := ?_) rfl (by kernel_rfl) (by kernel_rfl) (by kernel_rfl) 11 (by kernel_rfl) (fun _ _ _ h => h) (by assumption) (Or.inl ⟨by rfl, ?_⟩) ?_
      rotate_left 1
      · intro w' hSw
        obtain ⟨s0, s1, s2, s3, s4, s5⟩ := hSw
        go_simp
        try (with_reducible rfl)
      simp only [Act.put, List.setIfInBounds_toArray, List.set_cons_zero, List.set_cons_succ]
      refine wpAnyE_ready (rs := [9, 12]) (by kernel_rfl) (by simp) ?_
      refine AllReadyE.cons rfl (fun K hK => ?_) (AllReadyE.cons rfl (fun K hK => ?_) AllReadyE.nil)
      · skip
        go_simp
        refine hK.out _ _ (fun _ => ?_) (fun hSq => ?_)
        · first | exact hS0.alloc _ | exact (hS0.alloc _).drew
        have hS1 := hSq (by decide)
        clear hSq hK K
        try simp only [Act.put, List.setIfInBounds_toArray, List.set_cons_zero, List.set_cons_succ]
        refine wpAnyE_ready (rs := [12]) (by kernel_rfl) (by simp) ?_
        refine AllReadyE.cons rfl (fun K hK => ?_) AllReadyE.nil
        go_simp
        refine hK.out _ _ (fun _ => ?_) (fun hSq => ?_)
        · first | exact hS1.alloc _ | exact (hS1.alloc _).drew
        have hS2 := hSq (by decide)
        clear hSq hK K
        try simp only [Act.put, List.setIfInBounds_toArray, List.set_cons_zero, List.set_cons_succ]
        refine wpAnyE_take (i := 13) (v := ?_) rfl (by kernel_rfl) (by kernel_rfl) (by kernel_rfl) 13 (by kernel_rfl) (fun _ _ _ h => h) (by assumption) (Or.inl ⟨by rfl, ?_⟩) ?_
        rotate_left 1
        · intro w' hSw
          obtain ⟨s0, s1, s2, s3, s4, s5⟩ := hSw
          go_simp
          try (with_reducible rfl)
        simp only [Act.put, List.setIfInBounds_toArray, List.set_cons_zero, List.set_cons_succ]
        refine wpAnyE_ready (rs := [14]) (by kernel_rfl) (by simp) ?_
        refine AllReadyE.cons rfl (fun K hK => ?_) AllReadyE.nil
        go_simp
        refine hK.out _ _ (fun _ => ?_) (fun hSq => ?_)
        · first | exact hS2.alloc _ | exact (hS2.alloc _).drew
        have hS3 := hSq (by decide)
        clear hSq hK K
        try simp only [Act.put, List.setIfInBounds_toArray, List.set_cons_zero, List.set_cons_succ]
        refine wpAnyE_ready (rs := [15]) (by kernel_rfl) (by simp) ?_
        refine AllReadyE.cons rfl (fun K hK => ?_) AllReadyE.nil
        go_simp
        refine hK.out _ _ (fun _ => ?_) (fun hSq => ?_)
        · first | exact hS3.alloc _ | exact (hS3.alloc _).drew
        have hS4 := hSq (by decide)
        clear hSq hK K
        try simp only [Act.put, List.setIfInBounds_toArray, List.set_cons_zero, List.set_cons_succ]
        refine wpAnyE_ready (rs := [16]) (by kernel_rfl) (by simp) ?_
        refine AllReadyE.cons rfl (fun K hK => ?_) AllReadyE.nil
        refine step_append_own rfl (.tmp 25) (.tmp 36) 60 rfl w.heap.size 63 i0 (.pointer none) 1 8 Try.underlying60 HI.out HZ0.out HZ1.out HZ2.out rfl (by decide) lv ms.length (ms.map fun a => ptrV a.b) rfl (by repeat (first | exact HOWN.out | apply World.ownsRow.drew | apply World.ownsRow.alloc)) ⟨wr.heap.size + 4, 0, none⟩ 1 1 [.pointer (some ⟨wr.heap.size + 3, 0, none⟩)] rfl rfl (by first | exact news_one _ _ _ (by simp) | exact news_one_drew _ _ _ (by simp)) (by intro u hu; simp at hu; subst hu; rfl) (by unfold maxLen; omega) (by omega) (by simp; omega) ?_
        intro v' w2 hown2 hgrow2 hnil2
        refine hK.out _ _ (fun _ => hS4.grown hgrow2 HN1.out HN2.out) (fun hSq => ?_)
        have hS5 := hSq (by decide)
        clear hSq hK K hS0 hS1 hS2 hS3 hS4
        try simp only [Act.put, List.setIfInBounds_toArray, List.set_cons_zero, List.set_cons_succ]
        have hg3 : (newW wr r z 1 2).drew.grownBy w2 lv.ownBlock := hgrow2
        obtain ⟨g2, cap2, hv2⟩ := row_shape hown2
        subst hv2
        have hfl2 : w2.frozen? ⟨w1.heap.size, 0, none⟩ = false := (push_blk HLV.out (ownsRow_base HOWN.out) (newW_below wr r z 1 2).drew hg3).frozen 0
        have HFIN := Lib.hid (new_step HR.out hbm HRK.out HLEN.out HZ.out HOK2.out (Or.inl ⟨rfl, rfl⟩) HLV.out HOWN.out hg3 hown2)
        clear hgrow2 hnil2 hg3 hown2
        have hct := hS5.top
        refine wpAnyE_ready (rs := [17]) (by kernel_rfl) (by simp) ?_
        refine AllReadyE.cons rfl (fun K hK => ?_) AllReadyE.nil
        go_simp
        refine hK.out _ _ (fun _ => hS5) (fun _ => ?_)
        clear hK K
        try simp only [Act.put, List.setIfInBounds_toArray, List.set_cons_zero, List.set_cons_succ]
        refine wpAnyE_ready (rs := [18]) (by kernel_rfl) (by simp) ?_
        refine AllReadyE.cons rfl (fun K hK => ?_) AllReadyE.nil
        go_simp
        refine hK.out _ _ (fun _ => hS5) (fun _ => ?_)
        clear hK K
        try simp only [Act.put, List.setIfInBounds_toArray, List.set_cons_zero, List.set_cons_succ]
        refine wpAnyE_ready (rs := [19]) (by kernel_rfl) (by simp) ?_
        refine AllReadyE.cons rfl (fun K hK => ?_) AllReadyE.nil
        go_simp
        refine hK.out _ _ (fun h => absurd rfl h) (fun _ => ?_)
        clear hK K
        try simp only [Act.put, List.setIfInBounds_toArray, List.set_cons_zero, List.set_cons_succ]
        refine wpAnyE_done (by kernel_rfl) ?_ _
        clear hct hfl2 hS5
        go_wp2_with fail
        go_roundw
        case rel => exact ⟨k + 1, _, by omega, by go_num, HFIN.out⟩
        case measure => simp [intOf]; omega
      · skip
        go_simp
        refine hK.out _ _ (fun _ => ?_) (fun hSq => ?_)
        · first | exact hS0.alloc _ | exact (hS0.alloc _).drew
        have hS1 := hSq (by decide)
        clear hSq hK K
        try simp only [Act.put, List.setIfInBounds_toArray, List.set_cons_zero, List.set_cons_succ]
        refine wpAnyE_ready (rs := [9]) (by kernel_rfl) (by simp) ?_
        refine AllReadyE.cons rfl (fun K hK => ?_) AllReadyE.nil
        go_simp
        refine hK.out _ _ (fun _ => ?_) (fun hSq => ?_)
        · first | exact hS1.alloc _ | exact (hS1.alloc _).drew
        have hS2 := hSq (by decide)
        clear hSq hK K
        try simp only [Act.put, List.setIfInBounds_toArray, List.set_cons_zero, List.set_cons_succ]
        refine wpAnyE_take (i := 13) (v := ?_) rfl (by kernel_rfl) (by kernel_rfl) (by kernel_rfl) 13 (by kernel_rfl) (fun _ _ _ h => h) (by assumption) (Or.inl ⟨by rfl, ?_⟩) ?_
        rotate_left 1
        · intro w' hSw
          obtain ⟨s0, s1, s2, s3, s4, s5⟩ := hSw
          go_simp
          try (with_reducible rfl)
        simp only [Act.put, List.setIfInBounds_toArray, List.set_cons_zero, List.set_cons_succ]
        refine wpAnyE_ready (rs := [14]) (by kernel_rfl) (by simp) ?_
        refine AllReadyE.cons rfl (fun K hK => ?_) AllReadyE.nil
        go_simp
        refine hK.out _ _ (fun _ => ?_) (fun hSq => ?_)
        · first | exact hS2.alloc _ | exact (hS2.alloc _).drew
        have hS3 := hSq (by decide)
        clear hSq hK K
        try simp only [Act.put, List.setIfInBounds_toArray, List.set_cons_zero, List.set_cons_succ]
        refine wpAnyE_ready (rs := [15]) (by kernel_rfl) (by simp) ?_
        refine AllReadyE.cons rfl (fun K hK => ?_) AllReadyE.nil
        go_simp
        refine hK.out _ _ (fun _ => ?_) (fun hSq => ?_)
        · first | exact hS3.alloc _ | exact (hS3.alloc _).drew
        have hS4 := hSq (by decide)
        clear hSq hK K
        try simp only [Act.put, List.setIfInBounds_toArray, List.set_cons_zero, List.set_cons_succ]
        refine wpAnyE_ready (rs := [16]) (by kernel_rfl) (by simp) ?_
        refine AllReadyE.cons rfl (fun K hK => ?_) AllReadyE.nil
        refine step_append_own rfl (.tmp 25) (.tmp 36) 60 rfl w.heap.size 63 i0 (.pointer none) 1 8 Try.underlying60 HI.out HZ0.out HZ1.out HZ2.out rfl (by decide) lv ms.length (ms.map fun a => ptrV a.b) rfl (by repeat (first | exact HOWN.out | apply World.ownsRow.drew | apply World.ownsRow.alloc)) ⟨wr.heap.size + 4, 0, none⟩ 1 1 [.pointer (some ⟨wr.heap.size + 3, 0, none⟩)] rfl rfl (by first | exact news_one _ _ _ (by simp) | exact news_one_drew _ _ _ (by simp)) (by intro u hu; simp at hu; subst hu; rfl) (by unfold maxLen; omega) (by omega) (by simp; omega) ?_
        intro v' w2 hown2 hgrow2 hnil2
        refine hK.out _ _ (fun _ => hS4.grown hgrow2 HN1.out HN2.out) (fun hSq => ?_)
        have hS5 := hSq (by decide)
        clear hSq hK K hS0 hS1 hS2 hS3 hS4
        try simp only [Act.put, List.setIfInBounds_toArray, List.set_cons_zero, List.set_cons_succ]
        have hg3 : (newW wr r z 2 1).drew.grownBy w2 lv.ownBlock := hgrow2
        obtain ⟨g2, cap2, hv2⟩ := row_shape hown2
        subst hv2
        have hfl2 : w2.frozen? ⟨w1.heap.size, 0, none⟩ = false := (push_blk HLV.out (ownsRow_base HOWN.out) (newW_below wr r z 2 1).drew hg3).frozen 0
        have HFIN := Lib.hid (new_step HR.out hbm HRK.out HLEN.out HZ.out HOK2.out (Or.inr ⟨rfl, rfl⟩) HLV.out HOWN.out hg3 hown2)
        clear hgrow2 hnil2 hg3 hown2
        have hct := hS5.top
        refine wpAnyE_ready (rs := [17]) (by kernel_rfl) (by simp) ?_
        refine AllReadyE.cons rfl (fun K hK => ?_) AllReadyE.nil
        go_simp
        refine hK.out _ _ (fun _ => hS5) (fun _ => ?_)
        clear hK K
        try simp only [Act.put, List.setIfInBounds_toArray, List.set_cons_zero, List.set_cons_succ]
        refine wpAnyE_ready (rs := [18]) (by kernel_rfl) (by simp) ?_
        refine AllReadyE.cons rfl (fun K hK => ?_) AllReadyE.nil
        go_simp
        refine hK.out _ _ (fun _ => hS5) (fun _ => ?_)
        clear hK K
        try simp only [Act.put, List.setIfInBounds_toArray, List.set_cons_zero, List.set_cons_succ]
        refine wpAnyE_ready (rs := [19]) (by kernel_rfl) (by simp) ?_
        refine AllReadyE.cons rfl (fun K hK => ?_) AllReadyE.nil
        go_simp
        refine hK.out _ _ (fun h => absurd rfl h) (fun _ => ?_)
        clear hK K
        try simp only [Act.put, List.setIfInBounds_toArray, List.set_cons_zero, List.set_cons_succ]
        refine wpAnyE_done (by kernel_rfl) ?_ _
        clear hct hfl2 hS5
        go_wp2_with fail
        go_roundw
        case rel => exact ⟨k + 1, _, by omega, by go_num, HFIN.out⟩
        case measure => simp [intOf]; omega
    · have hfin : NewPost rs w (.returned (.tuple #[.pointer (some ⟨w1.heap.size, 0, none⟩), .int .i64 0])) wr := by
        have hR := HR.out
        have hr := hR.fresh
        rw [List.take_of_length_le (by rw [HN.out]; omega)] at hr
        exact ⟨hR.bel, Or.inr ⟨HCHK.out, _, ms, rfl, hbm, hR.mem, hr⟩⟩
      have HFIN := Lib.hid hfin
      clear hfin
      go_wp2_with fail
      go_ret2
      exact HFIN.out
end Go.Proofs.Ytbffclcjhcbejaa
