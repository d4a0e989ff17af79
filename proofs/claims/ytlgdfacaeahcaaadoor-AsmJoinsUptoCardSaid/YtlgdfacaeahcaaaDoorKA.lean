/- What is there while copied runs; walk: law05's same, spoil. Conditions: what each states. -/
import Derived.Test.YtlgdfacaeahcaaaDoorKZ
import Derived.Test.YtlgdfacaeahcaaaDoorGA
import Derived.Laws.IdiomStrings
import Derived.Deep.CutRange
set_option linter.unusedVariables false
set_option linter.unusedSimpArgs false
namespace Go.Proofs.YtlgdfacaeahcaaaDoor
open Go.RowKit
/-- What is there all along. -/
structure CpB (w W : World) (p q n : Nat) (v1 v2 v3 v4 : Value) (o : Ob) : Prop where
  below : Below p w W
  box : BoxO W p v1 v2 v3 v4
  size : n ≤ W.heap.size
  pn : p < n ∧ q < n ∧ p < q
  cells : ∃ a b c d, Blk W q 27 #[a, b, c, d]
def CpJ (d : Nat → Bool) (a : Act) (w W : World) (p q n : Nat) (v1 v2 v3 v4 : Value) (o : Ob) : Prop :=
  ∃ u3 u4 u5 u6 u7 u8 u9 u10 u11 u12 u13 u14 u15 u16 u17 : Value, a = ⟨#[.agg #[v1, v2, v3, v4], .pointer (some ⟨p, 0, none⟩), .pointer (some ⟨q, 0, none⟩), u3, u4, u5, u6, u7, u8, u9, u10, u11, u12, u13, u14, u15, u16, u17], []⟩ ∧ CpB w W p q n v1 v2 v3 v4 o ∧ (d 0 = true → u3 = .pointer (some ⟨p, 0, none⟩)) ∧ (d 1 = true → u4 = v1) ∧ (d 2 = true → W.ownsRow n 5 1 u5 o.tx.length (o.tx.map byv)) ∧ (d 3 = true → u6 = .pointer (some ⟨p, 1, none⟩)) ∧ (d 4 = true → u7 = v2) ∧ (d 5 = true → W.ownsRow n 5 1 u8 o.dt.length (o.dt.map byv)) ∧ ((d 6 && !d 9) = true → W.ownsRow n 45 4 u9 0 []) ∧ (d 7 = true → u10 = .pointer (some ⟨p, 2, none⟩)) ∧ (d 8 = true → u11 = v3) ∧ (d 9 = true → W.ownsRow n 45 4 u12 o.lb.length (o.lb.flatMap Lbl.cells) ∧ d 6 = true) ∧ ((d 10 && !d 13) = true → W.ownsRow n 48 5 u13 0 []) ∧ (d 11 = true → u14 = .pointer (some ⟨p, 3, none⟩)) ∧ (d 12 = true → u15 = v4) ∧ (d 13 = true → W.ownsRow n 48 5 u16 o.rl.length (o.rl.flatMap Rel.cells) ∧ d 10 = true) ∧ (d 14 = true → u17 = .agg #[u5, u8, u12, u16] ∧ d 2 = true ∧ d 5 = true ∧ d 9 = true ∧ d 13 = true) ∧ (d 15 = true → W.cell? ⟨q, 0, none⟩ = some u5 ∧ W.cell? ⟨q, 1, none⟩ = some u8 ∧ W.cell? ⟨q, 2, none⟩ = some u12 ∧ W.cell? ⟨q, 3, none⟩ = some u16 ∧ d 2 = true ∧ d 5 = true ∧ d 9 = true ∧ d 13 = true)
theorem upd_d {listed : Array Bool} {i : Nat} {d : Nat → Bool} (hd : d = fun k => listed.getD k false) (h : listed.getD i true = false) : (fun k => (listed.setIfInBounds i true).getD k false) = fun k => (k == i || d k) := by
  subst hd
  funext k
  have hs : i < listed.size := by
    rcases Nat.lt_or_ge i listed.size with h' | h'
    · exact h'
    · simp [Array.getD, Nat.not_lt.2 h'] at h
  by_cases hk : i = k
  · subst hk
    simp [Array.getD, hs]
  · have : (k == i) = false := by simpa using fun h => hk h.symm
    rw [this, Bool.false_or]
    simp only [Array.getD_eq_getD_getElem?]
    rw [Array.getElem?_setIfInBounds_ne hk]
theorem un_d {listed : Array Bool} {i : Nat} {d : Nat → Bool} (hd : d = fun k => listed.getD k false) (h : listed.getD i true = false) : d i = false := by
  subst hd
  simp only [Array.getD] at h ⊢
  split at h
  · rename_i hs
    simpa [hs] using h
  · cases h
theorem ready_dep {ops : Array Oper} {listed : Array Bool} {i : Nat} {o : Oper} {d : Nat → Bool} (hd : d = fun k => listed.getD k false) (h : i ∈ Region.ready .any ops listed) (ho : ops[i]? = some o) : (o.after.all fun e => !Region.binds .any e || d e.on) = true := by
  subst hd
  unfold Region.ready at h
  rw [List.mem_filter] at h
  have := h.2
  rw [ho] at this
  rw [Bool.and_eq_true] at this
  exact this.2
theorem not_ready {ops : Array Oper} {listed : Array Bool} {i : Nat} {o : Oper} {d : Nat → Bool} (hd : d = fun k => listed.getD k false) (h : Region.ready .any ops listed = []) (hi : i < listed.size) (ho : ops[i]? = some o) (hdp : (o.after.all fun e => !Region.binds .any e || d e.on) = true) : d i = true := by
  rcases hl : d i with _ | _
  · have h1 : listed.getD i true = false := by
      rw [hd] at hl
      simp only [Array.getD, hi, dif_pos] at hl ⊢
      exact hl
    have : i ∈ Region.ready .any ops listed := by
      unfold Region.ready
      rw [List.mem_filter]
      refine ⟨List.mem_range.2 (Array.getElem?_eq_some_iff.1 ho).1, ?_⟩
      rw [ho, h1]
      subst hd
      exact hdp
    rw [h] at this
    cases this
  · rfl
theorem own_grown {W W' : World} {n e e' size size' k k' : Nat} {v u : Value} {xs ys : List Value} (h : W.ownsRow n e size v k xs) (hu : W.ownsRow n e' size' u k' ys) (hg : W.grownBy W' u.ownBlock) (he : e ≠ e') : W'.ownsRow n e size v k xs := by
  refine ownsRow_keeps (F := fun i => u.ownBlock = some i) h ((Keeps.refl _ _).grown hg (fun g hg => Or.inr hg)) (fun i hi hF => ?_)
  obtain ⟨c1, b1⟩ := owns_kind h hi
  obtain ⟨c2, b2⟩ := owns_kind hu hF
  exact he (b1.kind b2)
theorem own_below {W W' : World} {n e size k : Nat} {v : Value} {xs : List Value} (h : W.ownsRow n e size v k xs) (hb : Below W.heap.size W W') : W'.ownsRow n e size v k xs := ownsRow_keeps h (keeps_of_below (fun _ => False) hb) (fun _ _ => id)
section
variable {w W W' : World} {p q n : Nat} {v1 v2 v3 v4 : Value} {o : Ob}
theorem CpB.below_ (h : CpB w W p q n v1 v2 v3 v4 o) (hb : Below W.heap.size W W') : CpB w W' p q n v1 v2 v3 v4 o := by
  obtain ⟨a, b, c, d, hc⟩ := h.cells
  exact ⟨h.below.trans (hb.mono (by have := h.size; have := h.pn; omega)), h.box.below hb, Nat.le_trans h.size hb.size, h.pn, ⟨a, b, c, d, hc.below hb hc.lt⟩⟩
theorem CpB.grown_ (h : CpB w W p q n v1 v2 v3 v4 o) {e size k : Nat} {u : Value} {ys : List Value} (hu : W.ownsRow n e size u k ys) (hg : W.grownBy W' u.ownBlock) : CpB w W' p q n v1 v2 v3 v4 o := by
  obtain ⟨a, b, c, d, hc⟩ := h.cells
  have hpn := h.pn
  have hs := h.size
  have hk : Keeps (fun i => u.ownBlock = some i) W W' := (Keeps.refl _ _).grown hg (fun g hg => Or.inr hg)
  have hge : ∀ g, u.ownBlock = some g → n ≤ g := fun g hg => (own_some2 hu hg).1
  exact ⟨h.below.grown hg (by omega) (fun k hk => by have := hge k hk; omega), h.box.keeps hk (fun e => by have := hge _ e; omega), Nat.le_trans h.size hg.size, h.pn, ⟨a, b, c, d, hc.keeps hk (fun e => by have := hge _ e; omega)⟩⟩
end
open Go.RowKit
theorem conv_bys {w : World} {v : Value} {bs : List UInt8} (h : Bys w v bs) : (convert 23 9 v).run Tryd.prog w = .ok (.string ⟨bs.toArray⟩) w := by
  obtain ⟨A, cap, rfl, h1, h2, h3⟩ := h
  cases A with
  | none =>
    have : bs = [] := by
      rcases Nat.eq_zero_or_pos bs.length with h | h
      · exact List.eq_nil_of_length_eq_zero h
      · obtain ⟨g, off, e, _⟩ := h3 h
        cases e
    subst this
    rw [run_convert_bytes_string w 23 9 5 none _ cap Tryd.underlying23 Tryd.underlying5 Tryd.underlying9]
    simp [Conv.bytesToString]
    rfl
  | some a =>
    refine run_convert_bytes_back w 23 9 5 a cap bs Tryd.underlying23 Tryd.underlying5 Tryd.underlying9 (fun j hj => ?_)
    obtain ⟨g, off, e, _, hc⟩ := h3 (by omega)
    cases e
    rw [addr_add]
    exact hc j _ (by rw [List.getElem?_map, List.getElem?_eq_getElem hj]; rfl)
set_option maxRecDepth 100000 in
set_option maxHeartbeats 8000000 in
theorem same_any (v1 v2 v3 v4 u1 u2 u3 u4 : Value) (o : Ob) (w : World) (h : ObAt w v1 v2 v3 v4 o) (h' : ObAt w u1 u2 u3 u4 o) :
    Calls Tryd.prog 7 #[.agg #[v1, v2, v3, v4], .agg #[u1, u2, u3, u4]] w fun e w' => e = .returned (.bool true) ∧ Below w.heap.size w w' := by
  obtain ⟨A3, c3, rfl, l3, m3⟩ := h.lb.form
  obtain ⟨A4, c4, rfl, l4, m4⟩ := h.rl.form
  obtain ⟨E3, d3, rfl, q3, n3⟩ := h'.lb.form
  obtain ⟨E4, d4, rfl, q4, n4⟩ := h'.rl.form
  unfold maxLen at m3 m4 n3 n4
  obtain ⟨N3, hN3⟩ : ∃ N3, o.lb.length = N3 := ⟨_, rfl⟩
  obtain ⟨N4, hN4⟩ : ∃ N4, o.rl.length = N4 := ⟨_, rfl⟩
  have HN3 := Lib.hid hN3
  have HN4 := Lib.hid hN4
  rw [hN3] at h h' l3 q3 ⊢
  rw [hN4] at h h' l4 q4 ⊢
  obtain ⟨w1, hw1⟩ : ∃ w1, w.alloc (.cells #[v1, v2, .slice A3 N3 c3, .slice A4 N4 c4] 27) = w1 := ⟨_, rfl⟩
  obtain ⟨w2, hw2⟩ : ∃ w2, w1.alloc (.cells #[u1, u2, .slice E3 N3 d3, .slice E4 N4 d4] 27) = w2 := ⟨_, rfl⟩
  obtain ⟨p, hp⟩ : ∃ p, w.heap.size = p := ⟨_, rfl⟩
  have hb1 : Below w.heap.size w w1 := by rw [← hw1]; exact (Below.refl _ _).alloc (Nat.le_refl _) _
  have hb2 : Below w1.heap.size w1 w2 := by rw [← hw2]; exact (Below.refl _ _).alloc (Nat.le_refl _) _
  have hs1 : w1.heap.size = p + 1 := by rw [← hw1, ← hp]; simp
  have hb : Below w.heap.size w w2 := hb1.trans (hb2.mono hb1.size)
  have HX : Hid (BoxO w2 p v1 v2 (.slice A3 N3 c3) (.slice A4 N4 c4) ∧ BoxO w2 (p + 1) u1 u2 (.slice E3 N3 d3) (.slice E4 N4 d4)) := by
    have x1 := BoxO.fresh w v1 v2 (.slice A3 N3 c3) (.slice A4 N4 c4) 27
    rw [hw1, hp] at x1
    have x2 := BoxO.fresh w1 u1 u2 (.slice E3 N3 d3) (.slice E4 N4 d4) 27
    rw [hw2, hs1] at x2
    exact ⟨x1.below hb2, x2⟩
  have k1 := conv_bys (h.tx.below hb)
  have k2 := conv_bys (h.dt.below hb)
  have k3 := conv_bys (h'.tx.below hb)
  have k4 := conv_bys (h'.dt.below hb)
  have HO := Lib.hid (h.below hb)
  have HO' := Lib.hid (h'.below hb)
  have HB := Lib.hid hb
  obtain ⟨a0, a1, a2, a3⟩ := HX.out.1
  obtain ⟨b0, b1, b2, b3⟩ := HX.out.2
  clear h h' hN3 hN4 hb hb1 hb2
  go_enter Tryd.func7, Tryd.ntmps7
  go_upto_region 1 with fail
  try rw [hw1]
  try rw [hs1]
  try rw [hw2]
  try rw [hp]
  clear hw1 hw2 hs1
  go_wp2_with fail
  go_loopw [5] (fun i W => ∃ k : Nat, k ≤ N3 ∧ i = .int .i64 k ∧ Hid (Below w2.heap.size w2 W)) (fun i _ => N3 - (intOf i).toNat)
  case atStart => exact ⟨0, Nat.zero_le _, rfl, Below.refl _ _⟩
  case round =>
    obtain ⟨k, hk, rfl, HW⟩ := hrel
    have hkc : ∀ {a : Addr} {v : Value}, w2.cell? a = some v → wr.cell? a = some v := fun h => (HW.out.cell (cell_lt h)).trans h
    clear a0 a1 a2 a3 b0 b1 b2 b3 k1 k2 k3 k4
    obtain ⟨a0, a1, a2, a3⟩ := HX.out.1
    obtain ⟨b0, b1, b2, b3⟩ := HX.out.2
    replace a2 := hkc a2
    replace a3 := hkc a3
    replace b2 := hkc b2
    replace b3 := hkc b3
    clear a0 a1 b0 b1
    by_cases hlt : k < N3
    · have hkl : k < o.lb.length := by rw [HN3.out]; exact hlt
      obtain ⟨g, off, rfl, _, hc⟩ := HO.out.lb.at_ (by omega)
      obtain ⟨g', off', rfl, _, hc'⟩ := HO'.out.lb.at_ (by omega)
      obtain ⟨x, hx⟩ : ∃ x, o.lb.getD k default = x := ⟨_, rfl⟩
      have hcx := hc k hkl
      have hcy := hc' k hkl
      rw [hx] at hcx hcy
      obtain ⟨x0, x1, x2, x3⟩ := hcx
      obtain ⟨y0, y1, y2, y3⟩ := hcy
      replace x0 := hkc x0
      replace x1 := hkc x1
      replace x2 := hkc x2
      replace x3 := hkc x3
      replace y0 := hkc y0
      replace y1 := hkc y1
      replace y2 := hkc y2
      replace y3 := hkc y3
      clear hkc hc hc' hx
      obtain ⟨nm, sec, at_, gl⟩ := x
      dsimp only at x0 x1 x2 x3 y0 y1 y2 y3
      have e3 : (k : Int) < (N3 : Int) := by omega
      have e5 : (0 : Int) ≤ (k : Int) := by omega
      have e6 : IntKind.i64.wrap ((k : Int) + 1) = ((k + 1 : Nat) : Int) := by rw [IntWalk.i64_in _ (by omega)]; omega
      go_wp2_with fail
      go_quiet (fail)
      go_wp2_with fail
      go_roundw
      case rel => exact ⟨k + 1, by omega, by go_num, below_dN HW.out _⟩
      case measure => simp [intOf]; omega
    · have hkn : k = N3 := by omega
      subst hkn
      have HS := HW
      clear hkc hlt hk
      go_wp2_with fail
      generalize wr = ws at *
      clear a2 a3 b2 b3
      go_loopw [6] (fun i W => ∃ j : Nat, j ≤ N4 ∧ i = .int .i64 j ∧ Hid (Below w2.heap.size w2 W)) (fun i _ => N4 - (intOf i).toNat)
      case atStart => exact ⟨0, Nat.zero_le _, rfl, HS.out⟩
      case round =>
        clear HS HW
        obtain ⟨j, hj, rfl, HW⟩ := hrel
        have hkc : ∀ {a : Addr} {v : Value}, w2.cell? a = some v → wr.cell? a = some v := fun h => (HW.out.cell (cell_lt h)).trans h
        obtain ⟨a0, a1, a2, a3⟩ := HX.out.1
        obtain ⟨b0, b1, b2, b3⟩ := HX.out.2
        replace a3 := hkc a3
        replace b3 := hkc b3
        clear a0 a1 a2 b0 b1 b2
        by_cases hlt : j < N4
        · have hjl : j < o.rl.length := by rw [HN4.out]; exact hlt
          obtain ⟨g, off, rfl, _, hc⟩ := HO.out.rl.at_ (by omega)
          obtain ⟨g', off', rfl, _, hc'⟩ := HO'.out.rl.at_ (by omega)
          obtain ⟨x, hx⟩ : ∃ x, o.rl.getD j default = x := ⟨_, rfl⟩
          have hcx := hc j hjl
          have hcy := hc' j hjl
          rw [hx] at hcx hcy
          obtain ⟨x0, x1, x2, x3, x4⟩ := hcx
          obtain ⟨y0, y1, y2, y3, y4⟩ := hcy
          replace x0 := hkc x0
          replace x1 := hkc x1
          replace x2 := hkc x2
          replace x3 := hkc x3
          replace x4 := hkc x4
          replace y0 := hkc y0
          replace y1 := hkc y1
          replace y2 := hkc y2
          replace y3 := hkc y3
          replace y4 := hkc y4
          clear hkc hc hc' hx
          obtain ⟨sec, at_, kd, add, nm⟩ := x
          dsimp only at x0 x1 x2 x3 x4 y0 y1 y2 y3 y4
          have e3 : (j : Int) < (N4 : Int) := by omega
          have e5 : (0 : Int) ≤ (j : Int) := by omega
          have e6 : IntKind.i64.wrap ((j : Int) + 1) = ((j + 1 : Nat) : Int) := by rw [IntWalk.i64_in _ (by omega)]; omega
          go_wp2_with fail
          go_quiet (fail)
          go_wp2_with fail
          go_roundw
          case rel => exact ⟨j + 1, by omega, by go_num, below_dN HW.out _⟩
          case measure => simp [intOf]; omega
        · have HF : Hid (Below w.heap.size w wr) := HB.out.trans (HW.out.mono HB.out.size)
          clear hkc
          go_wp2_with fail
          go_ret
          exact ⟨rfl, by have := HF.out; first | exact this | (rw [hp] at this ⊢; exact this) | (rw [← hp]; exact this)⟩
open Go.RowKit
theorem own_cell {w : World} {B g n cap size : Nat} {e : TypeId} {xs : List Value} (h : w.ownsRow B e size (.slice (some ⟨g, 0, none⟩) n cap) n xs) {j : Nat} (hj : j < n * size) : ∃ u, w.cell? ⟨g, j, none⟩ = some u := by
  have hl := h.1
  exact ⟨_, (own_parts h).2.2.2.2.1 j _ (List.getElem?_eq_getElem (by omega))⟩
open Go.RowKit
/-- The rows that spoil writes into. -/
structure Spk (w W : World) (p B : Nat) (o1 v1 v2 v3 v4 : Value) (n m : Nat) : Prop where
  t : ∃ xs, W.ownsRow B 5 1 o1 n xs
  l : ∃ ys, W.ownsRow B 45 4 v3 m ys
  box : BoxO W p v1 v2 v3 v4
  below : Below B w W
  pb : B ≤ p ∧ (∀ g, o1.ownBlock = some g → g < p) ∧ (∀ g, v3.ownBlock = some g → g < p) ∧ B ≤ W.heap.size
theorem Spk.setT {w W : World} {p B n m i : Nat} {g c : Nat} {v1 v2 v3 v4 : Value} (h : Spk w W p B (.slice (some ⟨g, 0, none⟩) n c) v1 v2 v3 v4 n m) (hi : i < n) (u : Value) : Spk w (W.setCell ⟨g, i, none⟩ u) p B (.slice (some ⟨g, 0, none⟩) n c) v1 v2 v3 v4 n m := by
  obtain ⟨xs, hx⟩ := h.t
  obtain ⟨ys, hy⟩ := h.l
  have hk : Keeps (fun j => j = g) W (W.setCell ⟨g, i, none⟩ u) := (Keeps.refl (fun j => j = g) W).setCell (p := ⟨g, i, none⟩) (Or.inr rfl) u
  have hg := (own_parts hx).1
  have hgp := h.pb.2.1 g rfl
  refine ⟨⟨_, own_set hx (by rw [hx.1]; omega) u⟩, ⟨ys, ownsRow_keeps hy hk (fun j hj e => ?_)⟩, h.box.keeps hk (by omega), below_keeps h.below hk (fun j hj e => by omega) h.pb.2.2.2, ⟨h.pb.1, h.pb.2.1, h.pb.2.2.1, by simpa using h.pb.2.2.2⟩⟩
  subst e
  obtain ⟨_, b1⟩ := owns_kind hx (g := j) rfl
  obtain ⟨_, b2⟩ := owns_kind hy hj
  exact absurd (b1.kind b2) (by decide)
theorem Spk.setL {w W : World} {p B n m i : Nat} {g c : Nat} {o1 v1 v2 v4 : Value} (h : Spk w W p B o1 v1 v2 (.slice (some ⟨g, 0, none⟩) m c) v4 n m) (hi : i < m * 4) (u : Value) : Spk w (W.setCell ⟨g, i, none⟩ u) p B o1 v1 v2 (.slice (some ⟨g, 0, none⟩) m c) v4 n m := by
  obtain ⟨xs, hx⟩ := h.t
  obtain ⟨ys, hy⟩ := h.l
  have hk : Keeps (fun j => j = g) W (W.setCell ⟨g, i, none⟩ u) := (Keeps.refl (fun j => j = g) W).setCell (p := ⟨g, i, none⟩) (Or.inr rfl) u
  have hg := (own_parts hy).1
  have hgp := h.pb.2.2.1 g rfl
  refine ⟨⟨xs, ownsRow_keeps hx hk (fun j hj e => ?_)⟩, ⟨_, own_set hy (by rw [hy.1]; omega) u⟩, h.box.keeps hk (by omega), below_keeps h.below hk (fun j hj e => by omega) h.pb.2.2.2, ⟨h.pb.1, h.pb.2.1, h.pb.2.2.1, by simpa using h.pb.2.2.2⟩⟩
  subst e
  obtain ⟨_, b1⟩ := owns_kind hy (g := j) rfl
  obtain ⟨_, b2⟩ := owns_kind hx hj
  exact absurd (b2.kind b1) (by decide)
theorem Spk.drew {w W : World} {p B n m : Nat} {o1 v1 v2 v3 v4 : Value} (h : Spk w W p B o1 v1 v2 v3 v4 n m) : Spk w W.drew p B o1 v1 v2 v3 v4 n m := ⟨h.t, h.l, h.box, h.below.drew, h.pb⟩
set_option maxRecDepth 100000 in
set_option maxHeartbeats 4000000 in
theorem spoil_clip (A1 : Option Addr) (c1 k1 : Nat) (v2 v3 v4 : Value) (B n m : Nat) (xs ys : List Value) (w : World) (hx : w.ownsRow B 5 1 (.slice A1 n k1) n xs) (hy : w.ownsRow B 45 4 v3 m ys) (hB : B ≤ w.heap.size) :
    Calls Tryd.prog 8 #[.agg #[.slice A1 n c1, v2, v3, v4]] w fun e w' => e = .returned (.tuple #[]) ∧ Below B w w' := by
  obtain ⟨p, hp⟩ : ∃ p, w.heap.size = p := ⟨_, rfl⟩
  have HST : Hid (Spk w (w.alloc (.cells #[.slice A1 n c1, v2, v3, v4] 27)) p B (.slice A1 n k1) (.slice A1 n c1) v2 v3 v4 n m) := by
    have hb : Below w.heap.size w (w.alloc (.cells #[.slice A1 n c1, v2, v3, v4] 27)) := (Below.refl _ _).alloc (Nat.le_refl _) _
    subst hp
    exact ⟨⟨xs, own_below hx hb⟩, ⟨ys, own_below hy hb⟩, BoxO.fresh w _ _ _ _ _, (Below.refl _ _).alloc hB _, ⟨hB, fun g hg => (own_some2 hx hg).2, fun g hg => (own_some2 hy hg).2, by simp; omega⟩⟩
  obtain ⟨A1', k1', e1, h1, h1'⟩ := slice_form hx
  clear e1
  obtain ⟨A3, c3, rfl, h3, h3'⟩ := slice_form hy
  unfold maxLen at h1' h3'
  clear hx hy
  go_enter Tryd.func8, Tryd.ntmps8
  go_wp2_with fail
  try rw [hp]
  go_loopw [2] (fun i W => ∃ k : Nat, k ≤ n ∧ i = .int .i64 k ∧ Hid (Spk w W p B (.slice A1 n k1) (.slice A1 n c1) v2 (.slice A3 m c3) v4 n m)) (fun i _ => n - (intOf i).toNat)
  case atStart => exact ⟨0, Nat.zero_le _, rfl, HST.out⟩
  case round =>
    clear HST
    obtain ⟨k, hk, rfl, HI⟩ := hrel
    obtain ⟨a0, a1, a2, a3⟩ := HI.out.box
    clear a1 a3
    by_cases hlt : k < n
    · obtain ⟨g, hA⟩ : ∃ g, A1 = some ⟨g, 0, none⟩ := by
        obtain ⟨xs, hx⟩ := HI.out.t
        obtain ⟨g, cap, e⟩ := own_some hx (by omega)
        injection e with e
        exact ⟨g, e⟩
      subst hA
      obtain ⟨xs, hx⟩ := HI.out.t
      obtain ⟨u, hu⟩ := own_cell hx (j := k) (by omega)
      have hf := (own_parts hx).2.2.2.2.2 k
      have HN2 := Lib.hid (HI.out.setT hlt (.int .u8 77))
      have e3 : (k : Int) < (n : Int) := by omega
      have e5 : (0 : Int) ≤ (k : Int) := by omega
      have e6 : IntKind.i64.wrap ((k : Int) + 1) = ((k + 1 : Nat) : Int) := by rw [IntWalk.i64_in _ (by omega)]; omega
      clear hx
      go_wp2_with fail
      go_roundw
      case rel => exact ⟨k + 1, by omega, by go_num, HN2.out⟩
      case measure => simp [intOf]; omega
    · have HS := HI
      clear HI
      go_wp2_with fail
      generalize wr = ws at *
      clear a0 a2
      go_loopw [3] (fun i W => ∃ j : Nat, j ≤ m ∧ i = .int .i64 j ∧ Hid (Spk w W p B (.slice A1 n k1) (.slice A1 n c1) v2 (.slice A3 m c3) v4 n m)) (fun i _ => m - (intOf i).toNat)
      case atStart => exact ⟨0, Nat.zero_le _, rfl, HS.out⟩
      case round =>
        clear HS
        obtain ⟨j, hj, rfl, HI⟩ := hrel
        obtain ⟨a0, a1, a2, a3⟩ := HI.out.box
        clear a0 a1 a3
        by_cases hlt : j < m
        · obtain ⟨g, hA⟩ : ∃ g, A3 = some ⟨g, 0, none⟩ := by
            obtain ⟨xs, hx⟩ := HI.out.l
            obtain ⟨g, cap, e⟩ := own_some hx (by omega)
            injection e with e
            exact ⟨g, e⟩
          subst hA
          obtain ⟨xs, hx⟩ := HI.out.l
          obtain ⟨u, hu⟩ := own_cell hx (j := j * 4) (by omega)
          have hf := (own_parts hx).2.2.2.2.2 (j * 4)
          have HN2 := Lib.hid (HI.out.setL (i := j * 4) (by omega) (.string ⟨#[115, 112, 111, 105, 108, 116]⟩))
          have e3 : (j : Int) < (m : Int) := by omega
          have e5 : (0 : Int) ≤ (j : Int) := by omega
          have e6 : IntKind.i64.wrap ((j : Int) + 1) = ((j + 1 : Nat) : Int) := by rw [IntWalk.i64_in _ (by omega)]; omega
          clear hx
          go_wp2_with fail
          go_roundw
          case rel => exact ⟨j + 1, by omega, by go_num, HN2.out⟩
          case measure => simp [intOf]; omega
        · have HF := Lib.hid HI.out.below
          go_wp2_with fail
          go_end0
          exact ⟨rfl, HF.out⟩
end Go.Proofs.YtlgdfacaeahcaaaDoor
