/- Rows of ints: the last one taken off; rows of truth values; rows of rows. No conditions. Walks: slices.Values, AppendSeq, Collect at ints. No conditions beyond what they state. -/
import Derived.Test.YtlmoblmkhicoeaaGreatDoorJ3
import Derived.RangeFuncBox
import Derived.RangeFuncLeaves
import Derived.RangeFuncNested
import Derived.Shelf.Abstract
import Derived.WalkKit
import Derived.OwnWalkIn
import Derived.TacticsInMore
import Derived.LoopNIn
import Derived.LoopIn
import Derived.Maps.AppendAt
set_option linter.unusedVariables false
set_option linter.unusedSimpArgs false
namespace Go.Proofs.YtlmoblmkhicoeaaGreatDoor
open Go.RowKit
theorem OwnI.pop {W : World} {B : Nat} {v : Value} {l : List Int} (h : OwnI W B v l) (hne : l ≠ []) :
    ∃ g cap m, l.length = m + 1 ∧ v = .slice (some ⟨g, 0, none⟩) (m + 1) cap ∧ m + 1 ≤ cap ∧ cap ≤ maxLen ∧ W.cell? ⟨g, m, none⟩ = some (.int .i64 (l.getLastD 0)) ∧ OwnI W B (.slice (some ⟨g, 0, none⟩) m cap) l.dropLast := by
  have hpos : 0 < l.length := List.length_pos_iff.2 hne
  obtain ⟨g, cap, rfl⟩ := own_some h hpos
  obtain ⟨p1, p2, p3, p4, p5, p6⟩ := own_parts h
  obtain ⟨m, hm⟩ : ∃ m, l.length = m + 1 := ⟨l.length - 1, by omega⟩
  refine ⟨g, cap, m, hm, by rw [hm], by omega, p4, ?_, ?_⟩
  · apply p5
    rw [List.getElem?_map]
    have e : l.getLastD 0 = l[m] := by
      rw [List.getLastD_eq_getLast?, List.getLast?_eq_getElem?, show l.length - 1 = m by omega, List.getElem?_eq_getElem (by omega)]
      rfl
    rw [e, List.getElem?_eq_getElem (by omega)]; rfl
  · have h2 := own_take h (k := m) (by omega)
    unfold OwnI
    have e : (l.dropLast).length = m := by rw [List.length_dropLast]; omega
    rw [e, show l.dropLast.map iv = (l.map iv).take (m * 1) by rw [List.dropLast_eq_take, ← List.map_take, hm]; simp]
    exact h2
def bv (b : Bool) : Value := .bool b
def Bools (W : World) (v : Value) (l : List Bool) : Prop := RowOf W v l.length (l.map bv)
/-- A row of truth values in a block. -/
structure BRow (W : World) (g : Nat) (l : List Bool) : Prop where
  b : ∃ cs, Blk W g 4 cs ∧ cs.toList = l.map bv
theorem BRow.cell {W : World} {g : Nat} {l : List Bool} (h : BRow W g l) (j : Nat) (hj : j < l.length) : W.cell? ⟨g, j, none⟩ = some (.bool l[j]) := by
  obtain ⟨cs, hb, hc⟩ := h.b
  rw [hb.cell, ← Array.getElem?_toList, hc, List.getElem?_map, List.getElem?_eq_getElem hj]; rfl
theorem BRow.val {W : World} {g : Nat} {l : List Bool} (h : BRow W g l) (j : Nat) (hj : j < l.length) : ∃ b, l.getD j false = b ∧ W.cell? ⟨g, j, none⟩ = some (.bool b) := ⟨l[j], by simp [hj], h.cell j hj⟩
theorem BRow.frozen {W : World} {g : Nat} {l : List Bool} (h : BRow W g l) (j : Nat) : W.frozen? ⟨g, j, none⟩ = false := by
  obtain ⟨cs, hb, hc⟩ := h.b
  exact hb.frozen j
theorem BRow.lt {W : World} {g : Nat} {l : List Bool} (h : BRow W g l) : g < W.heap.size := by
  obtain ⟨cs, hb, hc⟩ := h.b
  exact hb.lt
theorem BRow.set_ {W : World} {g : Nat} {l : List Bool} (h : BRow W g l) (j : Nat) (u : Bool) : BRow (W.setCell ⟨g, j, none⟩ (.bool u)) g (l.set j u) := by
  obtain ⟨cs, hb, hc⟩ := h.b
  exact ⟨_, hb.set_ j _, by rw [Array.toList_setIfInBounds, hc, List.map_set]; rfl⟩
theorem BRow.keeps {W W' : World} {F : Nat → Prop} {g : Nat} {l : List Bool} (h : BRow W g l) (hk : Keeps F W W') (hF : ¬ F g) : BRow W' g l := by
  obtain ⟨cs, h1, hc⟩ := h.b
  exact ⟨_, h1.keeps hk hF, hc⟩
theorem BRow.below {W W' : World} {g : Nat} {l : List Bool} (h : BRow W g l) (hb : Below W.heap.size W W') : BRow W' g l := h.keeps (keeps_of_below (fun _ => False) hb) id
theorem BRow.bools {W : World} {g n : Nat} {l : List Bool} (h : BRow W g l) (hn : l.length = n) (hl : n ≤ maxLen) : Bools W (.slice (some ⟨g, 0, none⟩) n n) l := by
  subst hn
  obtain ⟨cs, hb, hc⟩ := h.b
  refine ⟨_, _, rfl, Nat.le_refl _, hl, fun _ => ⟨g, 0, rfl, hb.lt, fun j u hj => ?_⟩⟩
  rw [hb.cell, Nat.zero_add, ← Array.getElem?_toList, hc]
  exact hj
theorem BRow.ne {W : World} {g g' : Nat} {l : List Bool} {m : List Int} {v : Value} {B : Nat} (h : BRow W g l) (h' : OwnI W B v m) (hv : v.ownBlock = some g') : g ≠ g' := by
  obtain ⟨cs, hb, hc⟩ := h.b
  obtain ⟨cur, hh⟩ := owns_kind h' hv
  exact hb.ne_ hh (by decide)
theorem und51 : Tryz.prog.underlying 51 = some (.slice 4) := by kernel_rfl
theorem inf4 : (Tryz.prog.info? 4).map (fun i => (i.zero, i.size, i.bytes)) = some (some (.bool false), 1, 1) := by kernel_rfl
theorem make_bools (n : Nat) (hn : n ≤ 16777216) (w : World) : (Instr.makeSlice 51 (.int .i64 (n : Int)) (.int .i64 (n : Int))).run Tryz.prog w = .ok (.slice (some ⟨w.heap.size, 0, none⟩) n n) (w.alloc (.cells (Array.replicate n (.bool false)) 4)) :=
  made_one und51 inf4 rfl (by decide) n hn w
theorem BRow.made (w : World) (n : Nat) : BRow (w.alloc (.cells (Array.replicate n (.bool false)) 4)) w.heap.size (List.replicate n false) := ⟨_, Blk.new _ _ _, by simp [bv]⟩
theorem Bools.below {W W' : World} {v : Value} {l : List Bool} (h : Bools W v l) (hb : Below W.heap.size W W') : Bools W' v l := RowOf.below h hb
theorem Bools.open_ {W : World} {v : Value} {l : List Bool} (h : Bools W v l) (hn : 0 < l.length) : ∃ g off cap, v = .slice (some ⟨g, off, none⟩) l.length cap ∧ l.length ≤ cap ∧ cap ≤ maxLen ∧ g < W.heap.size ∧ ∀ i (h : i < l.length), W.cell? ⟨g, off + i, none⟩ = some (.bool l[i]) := by
  obtain ⟨g, off, cap, e, h2, h3, h4, h5⟩ := RowOf.open_ h hn
  exact ⟨g, off, cap, e, h2, h3, h4, fun i hi => h5 i _ (by rw [List.getElem?_map, List.getElem?_eq_getElem hi]; rfl)⟩
/-- Rows of rows of ints. -/
def ToAt (W : World) (v : Value) (tl : List (List Int)) : Prop := ∃ vs : List Value, vs.length = tl.length ∧ RowOf W v tl.length vs ∧ ∀ i (h : i < tl.length) (h2 : i < vs.length), Ints W vs[i] tl[i]
theorem ToAt.below {W W' : World} {v : Value} {tl : List (List Int)} (h : ToAt W v tl) (hb : Below W.heap.size W W') : ToAt W' v tl := by
  obtain ⟨vs, h1, h2, h3⟩ := h
  exact ⟨vs, h1, h2.below hb, fun i a b => (h3 i a b).below hb⟩
theorem ToAt.form {W : World} {v : Value} {l : List (List Int)} (h : ToAt W v l) : ∃ A c, v = .slice A l.length c ∧ l.length ≤ c ∧ c ≤ maxLen := by
  obtain ⟨vs, _, h2, _⟩ := h
  exact h2.form
theorem ToAt.open_ {W : World} {v : Value} {tl : List (List Int)} (h : ToAt W v tl) (hn : 0 < tl.length) : ∃ g off cap, v = .slice (some ⟨g, off, none⟩) tl.length cap ∧ tl.length ≤ cap ∧ cap ≤ maxLen ∧ g < W.heap.size ∧ ∀ i (h : i < tl.length), ∃ iv, W.cell? ⟨g, off + i, none⟩ = some iv ∧ Ints W iv tl[i] := by
  obtain ⟨vs, h1, h2, h3⟩ := h
  obtain ⟨g, off, cap, e, h4, h5, h6, h7⟩ := h2.open_ hn
  exact ⟨g, off, cap, e, h4, h5, h6, fun i hi => ⟨vs[i]'(by omega), h7 i _ (by rw [List.getElem?_eq_getElem (by omega)]), h3 i hi (by omega)⟩⟩
end Go.Proofs.YtlmoblmkhicoeaaGreatDoor
namespace Go.Proofs.YtlmoblmkhicoeaaGreatDoor
open Go.RowKit Go.Shelf
attribute [local go_sem] Oper.semAt_some
def upto {α : Type} (f : Nat → α) (k : Nat) : List α := (List.range k).map f
theorem upto_succ {α : Type} (f : Nat → α) (k : Nat) : upto f (k + 1) = upto f k ++ [f k] := by simp [upto, List.range_succ]
theorem upto_length {α : Type} (f : Nat → α) (k : Nat) : (upto f k).length = k := by simp [upto]
theorem upto_all (zs : List Int) : upto (fun j => zs[j]?.getD 0) zs.length = zs := by
  apply List.ext_getElem
  · simp [upto]
  · intro i h1 h2
    simp [upto, h2]
theorem upto_take (zs : List Int) {k : Nat} (hk : k ≤ zs.length) : upto (fun j => zs[j]?.getD 0) k = zs.take k := by
  apply List.ext_getElem
  · simp [upto, hk]
  · intro i h1 h2
    have : i < zs.length := by simp [upto] at h1; omega
    simp [upto, this]
set_option maxRecDepth 100000 in
set_option maxHeartbeats 2000000 in
theorem values1_in (F : Fence) (n : Nat) (h7 : F.fn 78) (hro : F.round = none) (hn : 1 ≤ n) (l Bs n₀ b off len cap : Nat) (zs : List Int) (hreach : len * 8 ≤ 140737488351232) (hb : b < n₀) (J Jx : List Int → World → Prop)
    (hY : ∀ pre x W, J pre W → pre.length < len → YieldAt F (n - 1) Tryz.prog l #[.int .i64 x] W fun e W' =>
      (e = .returned (.bool true) ∧ J (pre ++ [x]) W' ∧ Below n₀ W W') ∨ (e = .returned (.bool false) ∧ Jx (pre ++ [x]) W'))
    (W : World) (hBs : W.cell? ⟨Bs, 0, none⟩ = some (.slice (some ⟨b, off, none⟩) len cap)) (hc : ∀ j, j < len → W.cell? ⟨b, off + j, none⟩ = some (.int .i64 (zs[j]?.getD 0))) (h0 : J [] W) :
    CallsIn F n Tryz.prog 78 #[.func (.yield l) #[] #[], .pointer (some ⟨Bs, 0, none⟩)] W fun e W' => (∃ v, e = .returned v) ∧
      ((∃ ys, ys = upto (fun j => zs[j]?.getD 0) len ∧ J ys W') ∨ (∃ pre, (∃ k, k ≤ len ∧ pre = upto (fun j => zs[j]?.getD 0) k) ∧ Jx pre W')) := by
  refine callsIn_of_wp Tryz.func78 rfl h7 ?_ hro
  simp only [Tryz.ntmps78, List.size_toArray, List.length_cons, List.length_nil, Nat.reduceAdd, Nat.reduceSub, Array.replicate_succ, Array.replicate_zero, List.push_toArray, List.append_toArray, List.nil_append, List.cons_append]
  gi_wp2
  gi_loopw [7] (fun i wr => ∃ k : Nat, k ≤ len ∧ i = .int .i64 k ∧ J (upto (fun j => zs[j]?.getD 0) k) wr ∧ Below n₀ W wr)
    (fun i _ => len - (intOf i).toNat)
  case atStart => exact ⟨0, Nat.zero_le _, rfl, h0, Below.refl _ _⟩
  case round =>
    obtain ⟨k, hk, rfl, hJs, hnx⟩ := hrel
    have hcx : k < len → wr.cell? ⟨b, off + k, none⟩ = some (.int .i64 (zs[k]?.getD 0)) := fun h => (hnx.cell (p := ⟨b, off + k, none⟩) hb).trans (hc k h)
    by_cases hlt : k < len
    · obtain ⟨fn, tmps, assign, body, hy, hR⟩ := hY _ (zs[k]?.getD 0) wr hJs (by rw [upto_length]; exact hlt)
      have hcx' := hcx hlt
      gi_wp2
      refine hR.mono ?_
      rintro e W3 (⟨rfl, hJ3, hk3⟩ | ⟨rfl, hJx3⟩)
      · gi_wp2
        go_roundw
        case rel => exact ⟨k + 1, by omega, by simp, by rw [upto_succ]; exact hJ3, hnx.trans hk3⟩
        case measure => simp [intOf]; omega
      · gi_wp2
        refine bodyPost_ret (results_none rfl _ _ _) rfl ?_
        exact ⟨⟨_, rfl⟩, .inr ⟨_, ⟨k + 1, by omega, (upto_succ _ _).symm⟩, hJx3⟩⟩
    · obtain rfl : k = len := by omega
      gi_wp2
      go_end0
      exact ⟨⟨_, rfl⟩, .inl ⟨_, rfl, hJs⟩⟩
set_option maxRecDepth 100000 in
set_option maxHeartbeats 1000000 in
theorem values1_nil_in (F : Fence) (n : Nat) (h7 : F.fn 78) (hro : F.round = none) (l Bs : Nat) (A : Option Addr) (cap : Nat) (J : List Int → World → Prop) (W : World) (hBs : W.cell? ⟨Bs, 0, none⟩ = some (.slice A 0 cap)) (h0 : J [] W) :
    CallsIn F n Tryz.prog 78 #[.func (.yield l) #[] #[], .pointer (some ⟨Bs, 0, none⟩)] W fun e W' => (∃ v, e = .returned v) ∧ J [] W' := by
  refine callsIn_of_wp Tryz.func78 rfl h7 ?_ hro
  simp only [Tryz.ntmps78, List.size_toArray, List.length_cons, List.length_nil, Nat.reduceAdd, Nat.reduceSub, Array.replicate_succ, Array.replicate_zero, List.push_toArray, List.append_toArray, List.nil_append, List.cons_append]
  gi_wp2
  gi_loopw [7] (fun i wr => i = .int .i64 0 ∧ J [] wr) (fun _ _ => 0)
  case atStart => exact ⟨rfl, h0⟩
  case round =>
    obtain ⟨rfl, hJs⟩ := hrel
    gi_wp2
    go_end0
    exact ⟨⟨_, rfl⟩, hJs⟩
set_option maxHeartbeats 1000000 in
theorem values_any (a : Option Addr) (len cap : Nat) (w : World) :
    Calls Tryz.prog 53 #[.slice a len cap] w fun e w' => e = .returned (.func (.func 78) #[] #[.pointer (some ⟨w.heap.size, 0, none⟩)]) ∧ w' = w.alloc (.cells #[.slice a len cap] 34) := by
  go_enter Tryz.func53, Tryz.ntmps53
  go_wp2
  go_ret
  exact ⟨rfl, rfl⟩
/-- What slices.Values hands back: all of zs, in order; or a part. -/
theorem values_stops (F : Fence) (n : Nat) (h7 : F.fn 78) (hro : F.round = none) (hn : 1 ≤ n) (Bs n₀ : Nat) (sv : Value) (zs : List Int) (hreach : zs.length * 8 ≤ 140737488351232) (w : World) (hBs : Bs < w.heap.size) (hn₀ : n₀ ≤ w.heap.size)
    (hc : w.cell? ⟨Bs, 0, none⟩ = some sv) (hI : Ints w sv zs) (w0 : World) (hI0 : Ints w0 sv zs) (h0 : w0.heap.size ≤ n₀) :
    SeqStopsK F n Tryz.prog 78 #[.pointer (some ⟨Bs, 0, none⟩)] (fun x : Int => #[Value.int .i64 x]) (Below n₀) (fun ys => ys = zs) (fun pre => pre <+: zs) zs.length w := fun l J Jx W hW _ _ hY h0' => by
  have hc' := (hW.cell (p := ⟨Bs, 0, none⟩) hBs).trans hc
  obtain ⟨A, c, rfl, h1, h2⟩ := hI.form
  rcases Nat.eq_zero_or_pos zs.length with hz | hp
  · have : zs = [] := List.length_eq_zero_iff.1 hz
    subst this
    exact (values1_nil_in F n h7 hro l Bs A c J W hc' h0').mono fun e W' ⟨he, hj⟩ => ⟨he, .inl ⟨_, rfl, hj⟩⟩
  · obtain ⟨g, off, cap, e, h3, h4, hg, hcc⟩ := hI.open_ hp
    cases e
    refine (values1_in F n h7 hro hn l Bs n₀ g off zs.length c zs hreach (by
      obtain ⟨g', off', cap', e', -, -, hg', -⟩ := hI0.open_ hp
      cases e'
      omega) J Jx hY W hc' (fun j hj => ?_) h0').mono ?_
    · rw [(hW.cell (p := ⟨g, off + j, none⟩) hg), hcc j hj]
      simp [hj]
    · rintro e W' ⟨he, ⟨ys, rfl, hj⟩ | ⟨pre, ⟨k, hk, rfl⟩, hj⟩⟩
      · exact ⟨he, .inl ⟨_, upto_all zs, hj⟩⟩
      · exact ⟨he, .inr ⟨_, by rw [upto_take zs hk]; exact List.take_prefix _ _, hj⟩⟩
theorem infE3 : (Tryz.prog.info? 3).map (fun i => (i.zero, i.size, i.bytes)) = some (some (.int .i64 0), 1, 8) := inf3
set_option maxRecDepth 100000 in
set_option maxHeartbeats 2000000 in
/-- slices.AppendSeq(nil, slices.Values(zs)): a row of one's own that holds zs. -/
theorem appendSeq_in (F : Fence) (n : Nat) (h98 : F.fn 98) (h78 : F.fn 78) (hro : F.round = none) (hn : 3 ≤ n) (Bs n₀ : Nat) (zs : List Int) (sv : Value) (w : World) (hm : zs.length ≤ 1048576)
    (hBs : Bs < w.heap.size) (hn₀ : n₀ ≤ w.heap.size) (hc : w.cell? ⟨Bs, 0, none⟩ = some sv) (hI : Ints w sv zs) :
    CallsIn F n Tryz.prog 98 #[.slice none 0 0, .func (.func 78) #[] #[.pointer (some ⟨Bs, 0, none⟩)]] w fun e W' => ∃ v, e = .returned v ∧ W'.ownsRow w.heap.size 3 1 v zs.length (zs.map (Value.int .i64)) ∧ Below w.heap.size w W' := by
  have h1 : 1 ≤ n := by omega
  obtain ⟨i0, hi, hz0, hz1, hz2⟩ := info_parts infE3
  refine callsIn_of_wp_marks Tryz.func98 rfl h98 ?_ hro
  simp only [Tryz.ntmps98, List.size_toArray, List.length_cons, List.length_nil, Nat.reduceAdd, Nat.reduceSub, Array.replicate_succ, Array.replicate_zero, List.push_toArray, List.append_toArray, List.nil_append, List.cons_append]
  gi_wp2
  have bO := Boxed.new w 34 (.slice none 0 0)
  have hB0 : Below w.heap.size w (w.alloc (.cells #[.slice none 0 0] 34)) := ((Below.refl _ w).alloc (Nat.le_refl _) _)
  refine wpIn_rangeFunc_ownG hro h1 (gf := 78) (lb := #[.pointer (some ⟨Bs, 0, none⟩)]) rfl h78 (enters_of Tryz.func78 (by kernel_rfl) rfl)
    (values_stops F (n - 1) h78 hro (by omega) Bs w.heap.size sv zs (by omega) _ (by simp only [World.size_alloc]; omega) (by simp only [World.size_alloc]; omega) (cell_al hc _) (hI.below hB0) w hI (Nat.le_refl _)) belowK_t (belowK_b (by simp only [World.size_alloc]; omega)) (Below.refl _ _) (fun _ => rfl)
    (fun pre W => (∃ v, Boxed W w.heap.size 34 v ∧ W.ownsRow w.heap.size 3 1 v pre.length (pre.map (Value.int .i64)) ∧ (v = .slice none 0 0 ↔ pre = [])) ∧ Below w.heap.size w W)
    (fun _ _ _ => False)
    (OwnFrom.and (Own.from (holdsRow_own w.heap.size w.heap.size 34 3 1 (fun pre => pre.length) (fun pre => pre.map (Value.int .i64)) (fun pre v => v = .slice none 0 0 ↔ pre = [])) _) (ownFrom_below (Nat.le_refl _) (by simp only [World.size_alloc]; omega)))
    (fun _ _ _ _ _ hs _ _ => hs)
    ⟨⟨_, bO, World.ownsRow_nil _ _ _ _, by simp⟩, hB0⟩
    (fun x => { tmps := #[.slice none 0 0, .func (.func 78) #[] #[.pointer (some ⟨Bs, 0, none⟩)], .pointer (some ⟨w.heap.size, 0, none⟩), undef, .slice none 0 0, .int .i64 x, .func (.func 78) #[] #[.pointer (some ⟨Bs, 0, none⟩)], .int .i64 x, undef, undef, undef, undef, undef], defers := [] }) ?assign ?body ?done ?stop
  case assign =>
    intro l x W K hK
    gi_wp2
    exact hK
  case body =>
    rintro l pre x W ⟨⟨v, hv, hrow, hnil⟩, hB⟩ hlt
    have hc := hv.cell
    gi_wp2_with (gi_at_builtin; refine wpListIn_append_own _ rfl _ _ 34 rfl w.heap.size 3 i0 (.int .i64 0) 1 8 und34 hi hz0 hz1 hz2 rfl (by decide) _ _ _ rfl (hrow.alloc _) ⟨W.heap.size, 0, none⟩ 1 1 [.int .i64 x] rfl rfl (cell_one_new _ _ _) (by simp [Value.oneCell']) (by unfold maxLen; omega) (by omega) (by have := hB.size; simp; omega) ?_; intro v' w1 hown' hgrow _; obtain ⟨g', cap', rfl⟩ := ownsRow_succ hown'; obtain ⟨hv1, hv2, hr2, hk2, hb2⟩ := hv.appended (by decide) hrow hB.size (Nat.le_refl _) hown' hgrow; have hc1 := hv1.cell; have hf1 := hv1.frozen)
    exact ⟨hk2.from _, hb2, ⟨_, hv2, by simpa using hr2, by simp⟩, hB.trans hb2⟩
  case done =>
    rintro D ys W hD rfl ⟨⟨v, hv, hrow, hnil⟩, hB⟩ hK
    have hc := hv.cell
    gi_wp2
    refine ⟨by simp, .inl ⟨_, _, rfl, run_takeDeferred hK, ?_⟩⟩
    exact ⟨_, results_tmp rfl _ _ _, v, rfl, ownsRow_putObj hrow _ hK rfl, hB.trans (belowK_b (w := w) (Nat.le_refl _) W D _ _ (by simp at hD; omega) hK rfl rfl)⟩
  case stop =>
    rintro D c pre W _ _ h _
    exact h.elim
end Go.Proofs.YtlmoblmkhicoeaaGreatDoor
