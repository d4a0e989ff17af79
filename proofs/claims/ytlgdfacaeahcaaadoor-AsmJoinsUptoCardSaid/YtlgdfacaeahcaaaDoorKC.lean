/- Walks: the reference's ordered. Conditions: what the theorem states. -/
import Derived.Test.YtlgdfacaeahcaaaDoorKA
import Derived.Deep.CutRange
set_option linter.unusedVariables false
set_option linter.unusedSimpArgs false
namespace Go.Proofs.YtlgdfacaeahcaaaDoor
open Go.RowKit
def OwnL (w : World) (B : Nat) (v : Value) (xs : List Lbl) : Prop := w.ownsRow B 45 4 v xs.length (xs.flatMap Lbl.cells)
def OwnR (w : World) (B : Nat) (v : Value) (xs : List Rel) : Prop := w.ownsRow B 48 5 v xs.length (xs.flatMap Rel.cells)
theorem one_rowL {w : World} (x : Lbl) : RowOf (w.alloc (.cells #[.string x.nm, .int .i64 x.sec, .int .i64 x.at_, .bool x.gl] 45)) (.slice (some ⟨w.heap.size, 0, none⟩) 1 1) 1 x.cells :=
  ⟨_, 1, rfl, Nat.le_refl _, by decide, fun _ => ⟨w.heap.size, 0, rfl, by simp, fun j u hj => by
    have := (Blk.new w 45 #[.string x.nm, .int .i64 x.sec, .int .i64 x.at_, .bool x.gl]).cell (0 + j)
    rw [this]
    simpa [Lbl.cells] using hj⟩⟩
theorem one_rowR {w : World} (x : Rel) : RowOf (w.alloc (.cells #[.int .i64 x.sec, .int .i64 x.at_, .int .i64 x.kd, .int .i64 x.add, .string x.nm] 48)) (.slice (some ⟨w.heap.size, 0, none⟩) 1 1) 1 x.cells :=
  ⟨_, 1, rfl, Nat.le_refl _, by decide, fun _ => ⟨w.heap.size, 0, rfl, by simp, fun j u hj => by
    have := (Blk.new w 48 #[.int .i64 x.sec, .int .i64 x.at_, .int .i64 x.kd, .int .i64 x.add, .string x.nm]).cell (0 + j)
    rw [this]
    simpa [Rel.cells] using hj⟩⟩
/-- One label more. -/
theorem OwnL.snoc {w : World} {B : Nat} {v : Value} {xs : List Lbl} (h : OwnL w B v xs) (x : Lbl) (hl : xs.length ≤ 1099511627776) (hB : B ≤ w.heap.size) :
    ∃ v' w', (Builtin.append_ #[24, 24] 24 #[v, .slice (some ⟨w.heap.size, 0, none⟩) 1 1]).run Tryd.prog (w.alloc (.cells #[.string x.nm, .int .i64 x.sec, .int .i64 x.at_, .bool x.gl] 45)) = .ok v' w' ∧ OwnL w' B v' (xs ++ [x]) ∧ (w.alloc (.cells #[.string x.nm, .int .i64 x.sec, .int .i64 x.at_, .bool x.gl] 45)).grownBy w' v.ownBlock ∧ (v'.ownBlock = v.ownBlock ∨ v'.ownBlock = some (w.alloc (.cells #[.string x.nm, .int .i64 x.sec, .int .i64 x.at_, .bool x.gl] 45)).heap.size) := by
  obtain ⟨v', w', r1, r2, r3, r4⟩ := app_any arowL 24 (own_below h ((Below.refl _ _).alloc (Nat.le_refl _) (.cells #[.string x.nm, .int .i64 x.sec, .int .i64 x.at_, .bool x.gl] 45))) (one_rowL x) (by simp [Lbl.cells]) (by have := oneL [x]; simpa using this) (by unfold maxLen; omega) (by omega) (by simp; omega)
  refine ⟨v', w', r1, ?_, r3, r4⟩
  unfold OwnL
  rw [List.length_append, List.flatMap_append]
  simpa using r2
theorem OwnR.snoc {w : World} {B : Nat} {v : Value} {xs : List Rel} (h : OwnR w B v xs) (x : Rel) (hl : xs.length ≤ 1099511627776) (hB : B ≤ w.heap.size) :
    ∃ v' w', (Builtin.append_ #[25, 25] 25 #[v, .slice (some ⟨w.heap.size, 0, none⟩) 1 1]).run Tryd.prog (w.alloc (.cells #[.int .i64 x.sec, .int .i64 x.at_, .int .i64 x.kd, .int .i64 x.add, .string x.nm] 48)) = .ok v' w' ∧ OwnR w' B v' (xs ++ [x]) ∧ (w.alloc (.cells #[.int .i64 x.sec, .int .i64 x.at_, .int .i64 x.kd, .int .i64 x.add, .string x.nm] 48)).grownBy w' v.ownBlock ∧ (v'.ownBlock = v.ownBlock ∨ v'.ownBlock = some (w.alloc (.cells #[.int .i64 x.sec, .int .i64 x.at_, .int .i64 x.kd, .int .i64 x.add, .string x.nm] 48)).heap.size) := by
  obtain ⟨v', w', r1, r2, r3, r4⟩ := app_any arowR 25 (own_below h ((Below.refl _ _).alloc (Nat.le_refl _) (.cells #[.int .i64 x.sec, .int .i64 x.at_, .int .i64 x.kd, .int .i64 x.add, .string x.nm] 48))) (one_rowR x) (by simp [Rel.cells]) (by have := oneR [x]; simpa using this) (by unfold maxLen; omega) (by omega) (by simp; omega)
  refine ⟨v', w', r1, ?_, r3, r4⟩
  unfold OwnR
  rw [List.length_append, List.flatMap_append]
  simpa using r2
/-- A whole row more. -/
theorem OwnL.app {w : World} {B : Nat} {v u : Value} {xs ys : List Lbl} (h : OwnL w B v xs) (hu : Lbs w u ys) (hl : xs.length ≤ 549755813888) (hl2 : ys.length ≤ 549755813888) (hB : B ≤ w.heap.size) :
    ∃ v' w', (Builtin.append_ #[24, 24] 24 #[v, u]).run Tryd.prog w = .ok v' w' ∧ OwnL w' B v' (xs ++ ys) ∧ w.grownBy w' v.ownBlock ∧ (v'.ownBlock = v.ownBlock ∨ v'.ownBlock = some w.heap.size) := by
  obtain ⟨v', w', r1, r2, r3, r4⟩ := app_any arowL 24 h hu (flatMap_len _ 4 (fun _ => rfl) ys) (oneL ys) (by unfold maxLen; omega) (by omega) hB
  refine ⟨v', w', r1, ?_, r3, r4⟩
  unfold OwnL
  rw [List.length_append, List.flatMap_append]
  exact r2
theorem OwnB.app {w : World} {B : Nat} {v u : Value} {xs ys : List UInt8} (h : OwnB w B v xs) (hu : Bys w u ys) (hl : xs.length ≤ 1099511627776) (hl2 : ys.length ≤ 1099511627776) (hB : B ≤ w.heap.size) :
    ∃ v' w', (Builtin.append_ #[23, 23] 23 #[v, u]).run Tryd.prog w = .ok v' w' ∧ OwnB w' B v' (xs ++ ys) ∧ w.grownBy w' v.ownBlock ∧ (v'.ownBlock = v.ownBlock ∨ v'.ownBlock = some w.heap.size) := by
  obtain ⟨v', w', r1, r2, r3, r4⟩ := app_any arowB 23 h hu (by simp) (oneB ys) (by unfold maxLen; omega) (by omega) hB
  refine ⟨v', w', r1, ?_, r3, r4⟩
  unfold OwnB
  rw [List.length_append, List.map_append]
  exact r2
def filL (s : Int) (xs : List Lbl) : List Lbl := xs.filter fun x => x.sec == s
def filR (s : Int) (xs : List Rel) : List Rel := xs.filter fun x => x.sec == s
def ordLs (xs : List Lbl) : Nat → List Lbl
  | 0 => []
  | s + 1 => ordLs xs s ++ filL s xs
def ordRs (xs : List Rel) : Nat → List Rel
  | 0 => []
  | s + 1 => ordRs xs s ++ filR s xs
theorem filL_hit {xs : List Lbl} {s : Int} {i : Nat} (h : i < xs.length) (he : (xs.getD i default).sec = s) : filL s (xs.take (i + 1)) = filL s (xs.take i) ++ [xs.getD i default] := by
  have e : xs.getD i default = xs[i] := by simp [List.getD, h]
  unfold filL
  rw [List.take_succ_eq_append_getElem h, List.filter_append, e]
  rw [e] at he
  simp [he]
theorem filL_miss {xs : List Lbl} {s : Int} {i : Nat} (h : i < xs.length) (he : ¬ (xs.getD i default).sec = s) : filL s (xs.take (i + 1)) = filL s (xs.take i) := by
  have e : xs.getD i default = xs[i] := by simp [List.getD, h]
  unfold filL
  rw [List.take_succ_eq_append_getElem h, List.filter_append]
  rw [e] at he
  simp [he]
theorem filR_hit {xs : List Rel} {s : Int} {i : Nat} (h : i < xs.length) (he : (xs.getD i default).sec = s) : filR s (xs.take (i + 1)) = filR s (xs.take i) ++ [xs.getD i default] := by
  have e : xs.getD i default = xs[i] := by simp [List.getD, h]
  unfold filR
  rw [List.take_succ_eq_append_getElem h, List.filter_append, e]
  rw [e] at he
  simp [he]
theorem filR_miss {xs : List Rel} {s : Int} {i : Nat} (h : i < xs.length) (he : ¬ (xs.getD i default).sec = s) : filR s (xs.take (i + 1)) = filR s (xs.take i) := by
  have e : xs.getD i default = xs[i] := by simp [List.getD, h]
  unfold filR
  rw [List.take_succ_eq_append_getElem h, List.filter_append]
  rw [e] at he
  simp [he]
theorem ordLs_len (xs : List Lbl) : ∀ s, (ordLs xs s).length ≤ s * xs.length
  | 0 => by simp [ordLs]
  | s + 1 => by
    have := ordLs_len xs s
    have h2 : (filL s xs).length ≤ xs.length := List.length_filter_le _ _
    rw [ordLs, List.length_append, Nat.succ_mul]
    omega
theorem ordRs_len (xs : List Rel) : ∀ s, (ordRs xs s).length ≤ s * xs.length
  | 0 => by simp [ordRs]
  | s + 1 => by
    have := ordRs_len xs s
    have h2 : (filR s xs).length ≤ xs.length := List.length_filter_le _ _
    rw [ordRs, List.length_append, Nat.succ_mul]
    omega
open Go.RowKit
/-- Where ordered stands. -/
structure OS (w W : World) (p : Nat) (v1 v2 v3 v4 vl vr : Value) (ls : List Lbl) (rs : List Rel) : Prop where
  below : Below p w W
  size : p + 2 ≤ W.heap.size
  box : Blk W p 27 #[v1, v2, v3, v4]
  res : ∃ a b c d, Blk W (p + 1) 27 #[a, b, c, d]
  l : OwnL W (p + 2) vl ls
  r : OwnR W (p + 2) vr rs
section
variable {w W W' : World} {p : Nat} {v1 v2 v3 v4 vl vr vl' vr' : Value} {ls ls' : List Lbl} {rs rs' : List Rel}
theorem OS.bel (h : OS w W p v1 v2 v3 v4 vl vr ls rs) (hb : Below W.heap.size W W') : OS w W' p v1 v2 v3 v4 vl vr ls rs := by
  obtain ⟨a, b, c, d, hr⟩ := h.res
  have := h.size
  exact ⟨h.below.trans (hb.mono (by omega)), Nat.le_trans h.size hb.size, h.box.below hb h.box.lt, ⟨a, b, c, d, hr.below hb hr.lt⟩, own_below h.l hb, own_below h.r hb⟩
theorem OS.growL (h : OS w W p v1 v2 v3 v4 vl vr ls rs) (hg : W.grownBy W' vl.ownBlock) (hl : OwnL W' (p + 2) vl' ls') : OS w W' p v1 v2 v3 v4 vl' vr ls' rs := by
  obtain ⟨a, b, c, d, hr⟩ := h.res
  have := h.size
  have hge : ∀ g, vl.ownBlock = some g → p + 2 ≤ g := fun g hg => (own_some2 h.l hg).1
  have hk : Keeps (fun i => vl.ownBlock = some i) W W' := (Keeps.refl _ _).grown hg (fun g hg => Or.inr hg)
  exact ⟨h.below.grown hg (by omega) (fun k hk => by have := hge k hk; omega), Nat.le_trans h.size hg.size, h.box.keeps hk (fun e => by have := hge _ e; omega), ⟨a, b, c, d, hr.keeps hk (fun e => by have := hge _ e; omega)⟩, hl, own_grown h.r h.l hg (by decide)⟩
theorem OS.growR (h : OS w W p v1 v2 v3 v4 vl vr ls rs) (hg : W.grownBy W' vr.ownBlock) (hr' : OwnR W' (p + 2) vr' rs') : OS w W' p v1 v2 v3 v4 vl vr' ls rs' := by
  obtain ⟨a, b, c, d, hr⟩ := h.res
  have := h.size
  have hge : ∀ g, vr.ownBlock = some g → p + 2 ≤ g := fun g hg => (own_some2 h.r hg).1
  have hk : Keeps (fun i => vr.ownBlock = some i) W W' := (Keeps.refl _ _).grown hg (fun g hg => Or.inr hg)
  exact ⟨h.below.grown hg (by omega) (fun k hk => by have := hge k hk; omega), Nat.le_trans h.size hg.size, h.box.keeps hk (fun e => by have := hge _ e; omega), ⟨a, b, c, d, hr.keeps hk (fun e => by have := hge _ e; omega)⟩, own_grown h.l h.r hg (by decide), hr'⟩
end
set_option maxRecDepth 100000 in
set_option maxHeartbeats 8000000 in
theorem rordered_any (v1 v2 v3 v4 : Value) (xs : List Lbl) (rs : List Rel) (w : World) (h1 : ∃ A n c, v1 = .slice A n c) (h2 : ∃ A n c, v2 = .slice A n c) (h3 : Lbs w v3 xs) (h4 : Rls w v4 rs) (l3 : xs.length ≤ 137438953472) (l4 : rs.length ≤ 137438953472) :
    Calls Tryd.prog 17 #[.agg #[v1, v2, v3, v4]] w fun e w' => ∃ z3 z4, e = .returned (.agg #[v1, v2, z3, z4]) ∧ OwnL w' w.heap.size z3 (ordLs xs 2) ∧ OwnR w' w.heap.size z4 (ordRs rs 2) ∧ Below w.heap.size w w' := by
  obtain ⟨D1, na1, ca1, rfl⟩ := h1
  obtain ⟨D2, na2, ca2, rfl⟩ := h2
  obtain ⟨p, hp⟩ : ∃ p, w.heap.size = p := ⟨_, rfl⟩
  have H3 := Lib.hid h3
  have H4 := Lib.hid h4
  obtain ⟨A3, c3, rfl, q3, m3⟩ := h3.form
  obtain ⟨A4, c4, rfl, q4, m4⟩ := h4.form
  unfold maxLen at m3 m4
  obtain ⟨N3, hN3⟩ : ∃ N3, xs.length = N3 := ⟨_, rfl⟩
  obtain ⟨N4, hN4⟩ : ∃ N4, rs.length = N4 := ⟨_, rfl⟩
  have HN3 := Lib.hid hN3
  have HN4 := Lib.hid hN4
  rw [hN3] at H3 l3 q3 ⊢
  rw [hN4] at H4 l4 q4 ⊢
  clear h3 h4 hN3 hN4
  have hbsL : ∀ w, (Instr.buildSlice 24 0 #[]).run Tryd.prog w = .ok (.slice (some ⟨w.heap.size, 0, none⟩) 0 0) (w.alloc (.cells #[] 45)) := fun _ => by kernel_rfl
  have hbsR : ∀ w, (Instr.buildSlice 25 0 #[]).run Tryd.prog w = .ok (.slice (some ⟨w.heap.size, 0, none⟩) 0 0) (w.alloc (.cells #[] 48)) := fun _ => by kernel_rfl
  have HST : Hid (OS w ((((w.alloc (.cells #[.slice D1 na1 ca1, .slice D2 na2 ca2, .slice A3 N3 c3, .slice A4 N4 c4] 27)).alloc (.cells #[.slice none 0 0, .slice none 0 0, .slice none 0 0, .slice none 0 0] 27)).alloc (.cells #[] 45)).alloc (.cells #[] 48)) p (.slice D1 na1 ca1) (.slice D2 na2 ca2) (.slice A3 N3 c3) (.slice A4 N4 c4) (.slice (some ⟨p + 1 + 1, 0, none⟩) 0 0) (.slice (some ⟨p + 1 + 1 + 1, 0, none⟩) 0 0) (ordLs xs 0) (ordRs rs 0)) := by
    subst hp
    have e1 : ∀ (W : World) (o : Obj), (W.alloc o).heap.size = W.heap.size + 1 := fun W o => by simp
    have hL := empty_own (w := (w.alloc (.cells #[.slice D1 na1 ca1, .slice D2 na2 ca2, .slice A3 N3 c3, .slice A4 N4 c4] 27)).alloc (.cells #[.slice none 0 0, .slice none 0 0, .slice none 0 0, .slice none 0 0] 27)) 45 4
    have hR := empty_own (w := ((w.alloc (.cells #[.slice D1 na1 ca1, .slice D2 na2 ca2, .slice A3 N3 c3, .slice A4 N4 c4] 27)).alloc (.cells #[.slice none 0 0, .slice none 0 0, .slice none 0 0, .slice none 0 0] 27)).alloc (.cells #[] 45)) 48 5
    rw [e1, e1] at hL
    rw [e1, e1, e1] at hR
    have hq := blk_at (w := w.alloc (.cells #[.slice D1 na1 ca1, .slice D2 na2 ca2, .slice A3 N3 c3, .slice A4 N4 c4] 27)) (n := w.heap.size + 1) (by simp) 27 #[.slice none 0 0, .slice none 0 0, .slice none 0 0, .slice none 0 0]
    exact ⟨((((Below.refl _ _).alloc (Nat.le_refl _) _).alloc (by simp) _).alloc (by simp; omega) _).alloc (by simp; omega) _, by simp, (((Blk.new w _ _).alloc _).alloc _).alloc _, ⟨_, _, _, _, (hq.alloc _).alloc _⟩, own_below hL ((Below.refl _ _).alloc (Nat.le_refl _) _), ownsRow_lower hR (by omega)⟩
  have HP := Lib.hid hp
  rw [hp]
  go_enter Tryd.func17, Tryd.ntmps17
  go_wp2_with fail
  go_loopw [5, 3, 4] (fun sv vl vr W => ∃ k : Nat, k ≤ 2 ∧ sv = .int .i64 k ∧ Hid (OS w W p (.slice D1 na1 ca1) (.slice D2 na2 ca2) (.slice A3 N3 c3) (.slice A4 N4 c4) vl vr (ordLs xs k) (ordRs rs k))) (fun sv _ _ _ => 2 - (intOf sv).toNat)
  case atStart => exact ⟨0, Nat.zero_le _, rfl, HST.out⟩
  case round =>
    clear HST
    obtain ⟨k, hk, rfl, HI⟩ := hrel
    generalize wr = ws at *
    generalize u3 = vl at *
    generalize u4 = vr at *
    by_cases hlt : k < 2
    · have e7 : IntKind.i64.wrap ((k : Int) + 1) = ((k + 1 : Nat) : Int) := by rw [IntWalk.i64_in _ (by omega)]; omega
      obtain ⟨m0, hm0⟩ : ∃ m0, ws.heap.size = m0 := ⟨_, rfl⟩
      have HOW : Hid (OwnL (ws.alloc (.cells #[] 45)) m0 (.slice (some ⟨m0, 0, none⟩) 0 0) [] ∧ Below m0 ws (ws.alloc (.cells #[] 45)) ∧ m0 ≤ (ws.alloc (.cells #[] 45)).heap.size) := by
        subst hm0
        exact ⟨empty_own _ 4, (Below.refl _ _).alloc (Nat.le_refl _) _, by simp⟩
      have HM := Lib.hid hm0
      go_wp2_with fail
      have HLT := Lib.hid hlt
      clear hm0 hlt
      generalize decide ((k : Int) < 2) = bk
      go_loopw [7, 6] (fun iv ov W => ∃ i : Nat, i ≤ N3 ∧ iv = .int .i64 i ∧ Hid (OwnL W m0 ov (filL k (xs.take i)) ∧ Below m0 ws W ∧ m0 ≤ W.heap.size)) (fun iv _ _ => N3 - (intOf iv).toNat)
      case atStart => exact ⟨0, Nat.zero_le _, rfl, HOW.out⟩
      case round =>
        clear HOW
        obtain ⟨i, hi, rfl, HJ⟩ := hrel
        generalize u6 = ov at *
        have hbw : ∀ {a : Addr} {v : Value}, ws.cell? a = some v → wr.cell? a = some v := fun h => by
          have := cell_lt h
          rw [HM.out] at this
          exact (HJ.out.2.1.cell this).trans h
        have b2 : wr.cell? ⟨p, 2, none⟩ = some (.slice A3 N3 c3) := hbw (by rw [HI.out.box.cell]; rfl)
        have b3 : wr.cell? ⟨p, 3, none⟩ = some (.slice A4 N4 c4) := hbw (by rw [HI.out.box.cell]; rfl)
        by_cases hli : i < N3
        · have hil : i < xs.length := by rw [HN3.out]; exact hli
          obtain ⟨g, off, rfl, _, hc⟩ := H3.out.at_ (by omega)
          obtain ⟨x, hx⟩ : ∃ x, xs.getD i default = x := ⟨_, rfl⟩
          have hcx := hc i hil
          rw [hx] at hcx
          have HX := Lib.hid hx
          have hww : ∀ {a : Addr} {v : Value}, w.cell? a = some v → wr.cell? a = some v := fun h => hbw ((HI.out.below.cell (by have := cell_lt h; rw [HP.out] at this; exact this)).trans h)
          obtain ⟨x0, x1, x2, x3⟩ := hcx
          replace x0 := hww x0
          replace x1 := hww x1
          replace x2 := hww x2
          replace x3 := hww x3
          clear hbw hww hc hx
          have e3 : (i : Int) < (N3 : Int) := by omega
          have e5 : (0 : Int) ≤ (i : Int) := by omega
          have e6 : IntKind.i64.wrap ((i : Int) + 1) = ((i + 1 : Nat) : Int) := by rw [IntWalk.i64_in _ (by omega)]; omega
          by_cases hsec : x.sec = (k : Int)
          · obtain ⟨v', w', r1, r2, r3, r4⟩ := OwnL.snoc HJ.out.1 x (by have := List.length_filter_le (fun x : Lbl => x.sec == (k : Int)) (xs.take i); rw [List.length_take] at this; show (filL _ _).length ≤ _; unfold filL; omega) HJ.out.2.2
            have HJ2 : Hid (OwnL w' m0 v' (filL k (xs.take (i + 1))) ∧ Below m0 ws w' ∧ m0 ≤ w'.heap.size) := by
              refine ⟨by rw [filL_hit hil (by rw [HX.out]; exact hsec), HX.out]; exact r2, ?_, by have := r3.size; have := HJ.out.2.2; simp at *; omega⟩
              exact (HJ.out.2.1.alloc HJ.out.2.2 _).grown r3 (by have := HJ.out.2.2; simp; omega) (fun g hg => (own_some2 HJ.out.1 hg).1)
            have HR := Lib.hid r1
            obtain ⟨nm, sec, at_, gl⟩ := x
            dsimp only at x0 x1 x2 x3 hsec HR
            subst hsec
            clear r1 r2 r3 r4 HJ
            go_wp2_with (at_builtin; refine wpList_append_eq rfl (.tmp 31) (.tmp 37) 24 rfl rfl rfl HR.out ?_)
            go_roundw
            case rel => exact ⟨i + 1, by omega, by go_num, HJ2.out⟩
            case measure => simp [intOf]; omega
          · have HJ2 : Hid (OwnL wr m0 ov (filL k (xs.take (i + 1))) ∧ Below m0 ws wr ∧ m0 ≤ wr.heap.size) := by
              show _ ∧ _
              rw [filL_miss hil (by rw [HX.out]; exact hsec)]
              exact HJ.out
            obtain ⟨nm, sec, at_, gl⟩ := x
            dsimp only at x0 x1 x2 x3 hsec
            have hs2 : (sec == (k : Int)) = false := by simpa using hsec
            clear HJ
            go_wp2_with fail
            go_roundw
            case rel => exact ⟨i + 1, by omega, by go_num, HJ2.out⟩
            case measure => simp [intOf]; omega
        · have hiN : i = N3 := by omega
          have HK : Hid (∃ v' w', (Builtin.append_ #[24, 24] 24 #[vl, ov]).run Tryd.prog wr = .ok v' w' ∧ OS w w' p (.slice D1 na1 ca1) (.slice D2 na2 ca2) (.slice A3 N3 c3) (.slice A4 N4 c4) v' vr (ordLs xs (k + 1)) (ordRs rs k)) := by
            have hOS := HI.out.bel (W' := wr) (by rw [HM.out]; exact HJ.out.2.1)
            have hfl : (filL k (xs.take i)).length ≤ N3 := by
              have := List.length_filter_le (fun x : Lbl => x.sec == (k : Int)) (xs.take i)
              rw [List.length_take] at this
              unfold filL
              omega
            have hol := ordLs_len xs k
            rw [HN3.out] at hol
            have hol2 : k * N3 ≤ 2 * N3 := Nat.mul_le_mul_right _ hk
            obtain ⟨v', w', r1, r2, r3, r4⟩ := OwnL.app hOS.l (RowOf.own HJ.out.1) (by omega) (by omega) hOS.size
            refine ⟨v', w', r1, hOS.growL r3 ?_⟩
            rw [ordLs]
            have : xs.take i = xs := List.take_of_length_le (by rw [HN3.out]; omega)
            rw [this] at r2
            exact r2
          obtain ⟨v', w', r1, r2⟩ := HK.out
          have HR := Lib.hid r1
          have HO2 := Lib.hid r2
          clear r1 r2 HK HJ hbw hiN
          go_wp2_with (at_builtin; refine wpList_append_eq rfl (.tmp 39) (.tmp 40) 24 rfl rfl rfl HR.out ?_)
          clear b2 b3 HR
          go_loopw [8, 4] (fun jv rv W => ∃ j : Nat, j ≤ N4 ∧ jv = .int .i64 j ∧ Hid (OS w W p (.slice D1 na1 ca1) (.slice D2 na2 ca2) (.slice A3 N3 c3) (.slice A4 N4 c4) v' rv (ordLs xs (k + 1)) (ordRs rs k ++ filR k (rs.take j)))) (fun jv _ _ => N4 - (intOf jv).toNat)
          case atStart => exact ⟨0, Nat.zero_le _, rfl, by show OS _ _ _ _ _ _ _ _ _ _ _; have := HO2.out; simpa [filR] using this⟩
          case round =>
            clear HO2
            obtain ⟨j, hj, rfl, HJ⟩ := hrel
            generalize u4 = rv at *
            have b3 : wr.cell? ⟨p, 3, none⟩ = some (.slice A4 N4 c4) := by rw [HJ.out.box.cell]; rfl
            by_cases hlj : j < N4
            · have hjl : j < rs.length := by rw [HN4.out]; exact hlj
              obtain ⟨g, off, rfl, _, hc⟩ := H4.out.at_ (by omega)
              obtain ⟨x, hx⟩ : ∃ x, rs.getD j default = x := ⟨_, rfl⟩
              have hcx := hc j hjl
              rw [hx] at hcx
              have HX := Lib.hid hx
              have hww : ∀ {a : Addr} {v : Value}, w.cell? a = some v → wr.cell? a = some v := fun h => (HJ.out.below.cell (by have := cell_lt h; rw [HP.out] at this; exact this)).trans h
              obtain ⟨x0, x1, x2, x3, x4⟩ := hcx
              replace x0 := hww x0
              replace x1 := hww x1
              replace x2 := hww x2
              replace x3 := hww x3
              replace x4 := hww x4
              clear hww hc hx
              have e3 : (j : Int) < (N4 : Int) := by omega
              have e5 : (0 : Int) ≤ (j : Int) := by omega
              have e6 : IntKind.i64.wrap ((j : Int) + 1) = ((j + 1 : Nat) : Int) := by rw [IntWalk.i64_in _ (by omega)]; omega
              by_cases hsec : x.sec = (k : Int)
              · obtain ⟨v2', w2', r1, r2, r3, r4⟩ := OwnR.snoc HJ.out.r x (by
                  have h1 := List.length_filter_le (fun x : Rel => x.sec == (k : Int)) (rs.take j)
                  have h2 := ordRs_len rs k
                  rw [List.length_take] at h1
                  rw [HN4.out] at h2
                  have h3 : k * N4 ≤ 2 * N4 := Nat.mul_le_mul_right _ hk
                  rw [List.length_append]
                  unfold filR
                  omega) (by have := HJ.out.size; omega)
                have HJ2 : Hid (OS w w2' p (.slice D1 na1 ca1) (.slice D2 na2 ca2) (.slice A3 N3 c3) (.slice (some ⟨g, off, none⟩) N4 c4) v' v2' (ordLs xs (k + 1)) (ordRs rs k ++ filR k (rs.take (j + 1)))) := by
                  have hb : Below wr.heap.size wr (wr.alloc (.cells #[.int .i64 x.sec, .int .i64 x.at_, .int .i64 x.kd, .int .i64 x.add, .string x.nm] 48)) := (Below.refl _ _).alloc (Nat.le_refl _) _
                  refine (HJ.out.bel hb).growR r3 ?_
                  rw [filR_hit hjl (by rw [HX.out]; exact hsec), HX.out, ← List.append_assoc]
                  exact r2
                have HR := Lib.hid r1
                obtain ⟨sec, at_, kd, add, nm⟩ := x
                dsimp only at x0 x1 x2 x3 x4 hsec HR
                subst hsec
                clear r1 r2 r3 r4 HJ
                go_wp2_with (at_builtin; refine wpList_append_eq rfl (.tmp 57) (.tmp 63) 25 rfl rfl rfl HR.out ?_)
                go_roundw
                case rel => exact ⟨j + 1, by omega, by go_num, HJ2.out⟩
                case measure => simp [intOf]; omega
              · have HJ2 : Hid (OS w wr p (.slice D1 na1 ca1) (.slice D2 na2 ca2) (.slice A3 N3 c3) (.slice (some ⟨g, off, none⟩) N4 c4) v' rv (ordLs xs (k + 1)) (ordRs rs k ++ filR k (rs.take (j + 1)))) := by
                  show OS _ _ _ _ _ _ _ _ _ _ _
                  rw [filR_miss hjl (by rw [HX.out]; exact hsec)]
                  exact HJ.out
                obtain ⟨sec, at_, kd, add, nm⟩ := x
                dsimp only at x0 x1 x2 x3 x4 hsec
                have hs2 : (sec == (k : Int)) = false := by simpa using hsec
                clear HJ
                go_wp2_with fail
                go_roundw
                case rel => exact ⟨j + 1, by omega, by go_num, HJ2.out⟩
                case measure => simp [intOf]; omega
            · have HFIN : Hid (OS w wr p (.slice D1 na1 ca1) (.slice D2 na2 ca2) (.slice A3 N3 c3) (.slice A4 N4 c4) v' rv (ordLs xs (k + 1)) (ordRs rs (k + 1))) := by
                have : rs.take j = rs := List.take_of_length_le (by rw [HN4.out]; omega)
                have h1 := HJ.out
                rw [this] at h1
                exact h1
              have hlt := HLT.out
              clear HJ
              go_wp2_with fail
              go_roundw
              case rel => exact ⟨k + 1, by omega, by go_num, HFIN.out⟩
              case measure => simp [intOf]; omega
    · obtain rfl : k = 2 := by omega
      obtain ⟨ra, rb, rc, rd, hres⟩ := HI.out.res
      have k2 : ws.cell? ⟨p, 2, none⟩ = some (.slice A3 N3 c3) := by rw [HI.out.box.cell]; rfl
      have k3 : ws.cell? ⟨p, 3, none⟩ = some (.slice A4 N4 c4) := by rw [HI.out.box.cell]; rfl
      obtain ⟨Bl, cl, hl, _, _⟩ := slice_form HI.out.l
      obtain ⟨Br, cr, hr, _, _⟩ := slice_form HI.out.r
      have f2 := HI.out.box.frozen 2
      have f3 := HI.out.box.frozen 3
      have k0 : ws.cell? ⟨p, 0, none⟩ = some (.slice D1 na1 ca1) := by rw [HI.out.box.cell]; rfl
      have k1 : ws.cell? ⟨p, 1, none⟩ = some (.slice D2 na2 ca2) := by rw [HI.out.box.cell]; rfl
      have q0 : ws.cell? ⟨p + 1, 0, none⟩ = some ra := by rw [hres.cell]; rfl
      have q1 : ws.cell? ⟨p + 1, 1, none⟩ = some rb := by rw [hres.cell]; rfl
      have q2 : ws.cell? ⟨p + 1, 2, none⟩ = some rc := by rw [hres.cell]; rfl
      have q3 : ws.cell? ⟨p + 1, 3, none⟩ = some rd := by rw [hres.cell]; rfl
      have g0 := hres.frozen 0
      have g1 := hres.frozen 1
      have g2 := hres.frozen 2
      have g3 := hres.frozen 3
      have HFIN : Hid (∀ W6, W6 = (((((ws.setCell ⟨p, 2, none⟩ vl).setCell ⟨p, 3, none⟩ vr).setCell ⟨p + 1, 0, none⟩ (.slice D1 na1 ca1)).setCell ⟨p + 1, 1, none⟩ (.slice D2 na2 ca2)).setCell ⟨p + 1, 2, none⟩ vl).setCell ⟨p + 1, 3, none⟩ vr → OwnL W6 p vl (ordLs xs 2) ∧ OwnR W6 p vr (ordRs rs 2) ∧ Below p w W6 ∧ Blk W6 (p + 1) 27 #[.slice D1 na1 ca1, .slice D2 na2 ca2, vl, vr]) := by
        rintro W6 rfl
        have hk : Keeps (fun i => i = p ∨ i = p + 1) ws ((((((ws.setCell ⟨p, 2, none⟩ vl).setCell ⟨p, 3, none⟩ vr).setCell ⟨p + 1, 0, none⟩ (.slice D1 na1 ca1)).setCell ⟨p + 1, 1, none⟩ (.slice D2 na2 ca2)).setCell ⟨p + 1, 2, none⟩ vl).setCell ⟨p + 1, 3, none⟩ vr) :=
          ((((((Keeps.refl (fun i => i = p ∨ i = p + 1) ws).setCell (p := ⟨p, 2, none⟩) (Or.inr (Or.inl rfl)) vl).setCell (p := ⟨p, 3, none⟩) (Or.inr (Or.inl rfl)) vr).setCell (p := ⟨p + 1, 0, none⟩) (Or.inr (Or.inr rfl)) (.slice D1 na1 ca1)).setCell (p := ⟨p + 1, 1, none⟩) (Or.inr (Or.inr rfl)) (.slice D2 na2 ca2)).setCell (p := ⟨p + 1, 2, none⟩) (Or.inr (Or.inr rfl)) vl).setCell (p := ⟨p + 1, 3, none⟩) (Or.inr (Or.inr rfl)) vr
        have hs := HI.out.size
        refine ⟨ownsRow_lower (ownsRow_keeps HI.out.l hk (fun g hg e => by have := (own_some2 HI.out.l hg).1; omega)) (by omega), ownsRow_lower (ownsRow_keeps HI.out.r hk (fun g hg e => by have := (own_some2 HI.out.r hg).1; omega)) (by omega), below_keeps HI.out.below hk (fun i hi e => by omega) (by omega), ?_⟩
        have hb := ((((((hres.far (p := ⟨p, 2, none⟩) (by show p + 1 ≠ p; omega) vl).far (p := ⟨p, 3, none⟩) (by show p + 1 ≠ p; omega) vr).set_ 0 (.slice D1 na1 ca1)).set_ 1 (.slice D2 na2 ca2)).set_ 2 vl).set_ 3 vr)
        simpa using hb
      subst hl
      subst hr
      clear hres HI
      go_wp2_with fail
      have hF := HFIN.out _ rfl
      have y0 := hF.2.2.2.cell 0
      have y1 := hF.2.2.2.cell 1
      have y2 := hF.2.2.2.cell 2
      have y3 := hF.2.2.2.cell 3
      refine bodyPost_ret (v := .agg #[.slice D1 na1 ca1, .slice D2 na2 ca2, .slice Bl (ordLs xs 2).length cl, .slice Br (ordRs rs 2).length cr]) (by simp [results, Tryd.results17, y0, y1, y2, y3, go_sem]) rfl ?_
      exact ⟨_, _, rfl, hF.1, hF.2.1, hF.2.2.1⟩
end Go.Proofs.YtlgdfacaeahcaaaDoor
