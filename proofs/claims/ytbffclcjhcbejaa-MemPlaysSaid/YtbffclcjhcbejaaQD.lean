/- Walk: the document's put. Conditions: the list is a row of the call's own. -/
import Derived.Test.YtbffclcjhcbejaaQC
import Derived.Test.YtbffclcjhcbejaaL4
import Derived.Deep.RegionLaw
import Derived.Deep.RegionHeld3
namespace Go.Proofs.Ytbffclcjhcbejaa
open Go.RowKit
theorem own_set {w : World} {B g n cap size : Nat} {e : TypeId} {xs : List Value} (h : w.ownsRow B e size (.slice (some ⟨g, 0, none⟩) n cap) n xs) {j : Nat} (hj : j < xs.length) (u : Value) :
    (w.setCell ⟨g, j, none⟩ u).ownsRow B e size (.slice (some ⟨g, 0, none⟩) n cap) n (xs.set j u) := by
  rcases h.2 with ⟨h0, _⟩ | ⟨g', cap', cur, hv, hbs, hh, h1, h2, h3, h4⟩
  · cases h0
  · simp only [Value.slice.injEq, Option.some.injEq, Addr.mk.injEq, and_true, true_and] at hv
    obtain ⟨rfl, rfl⟩ := hv
    refine ⟨by rw [List.length_set]; exact h.1, Or.inr ⟨g, cap, _, rfl, hbs, Blk.set_ (t := e) hh j u, h1, h2, by simpa using h3, ?_⟩⟩
    rw [Array.toList_setIfInBounds, List.take_set, h4]
theorem own_take {w : World} {B g n cap size : Nat} {e : TypeId} {xs : List Value} (h : w.ownsRow B e size (.slice (some ⟨g, 0, none⟩) n cap) n xs) {k : Nat} (hk : k ≤ n) :
    w.ownsRow B e size (.slice (some ⟨g, 0, none⟩) k cap) k (xs.take (k * size)) := by
  have hlen := h.1
  rcases h.2 with ⟨h0, _⟩ | ⟨g', cap', cur, hv, hbs, hh, h1, h2, h3, h4⟩
  · cases h0
  · simp only [Value.slice.injEq, Option.some.injEq, Addr.mk.injEq, and_true, true_and] at hv
    obtain ⟨rfl, rfl⟩ := hv
    have hle : k * size ≤ n * size := Nat.mul_le_mul_right _ hk
    refine ⟨by rw [List.length_take]; omega, Or.inr ⟨g, cap, cur, rfl, hbs, hh, by omega, h2, h3, ?_⟩⟩
    rw [← h4, List.take_take, Nat.min_eq_left hle]
theorem own_parts {w : World} {B g n cap size : Nat} {e : TypeId} {xs : List Value} (h : w.ownsRow B e size (.slice (some ⟨g, 0, none⟩) n cap) n xs) : B ≤ g ∧ g < w.heap.size ∧ n ≤ cap ∧ cap ≤ maxLen ∧ (∀ j u, xs[j]? = some u → w.cell? ⟨g, j, none⟩ = some u) ∧ ∀ j, w.frozen? ⟨g, j, none⟩ = false := by
  have hh := h
  rcases h.2 with ⟨h0, _⟩ | ⟨g', cap', cur, hv, hbs, hb, h1, h2, h3, h4⟩
  · cases h0
  · simp only [Value.slice.injEq, Option.some.injEq, Addr.mk.injEq, and_true, true_and] at hv
    obtain ⟨rfl, rfl⟩ := hv
    refine ⟨hbs, Blk.lt (t := e) hb, h1, h2, fun j u hj => ?_, fun j => Blk.frozen (t := e) hb j⟩
    have := hh.cells (g := g) rfl j u hj
    rwa [addr_add, Nat.zero_add] at this
/-- An append whose run is known, in a region that draws. -/
theorem step_append_eq {P : Program} {w w' : World} {ops : Array Oper} {o : Oper} {a : Act} {K : Act → World → Prop} {Q : Exit → Act → World → Prop} {E : Prop} (hgd : o.guard = none) (s x : Operand) (t : TypeId)
    (ho : o.op = .call { callee := .builtin .append, args := #[s, x], argTypes := #[t, t] }) {v u v' : Value} (hs : a.eval s = v) (hx : a.eval x = u)
    (hr : (Builtin.append_ #[t, t] o.type #[v, u]).run P w = .ok v' w') (h : K (a.put o.dst v') w') : if Region.wanted o (yielded ops a.tmps) = true then Oper.wp P o a w K Q else E := by
  have hw : Region.wanted o (yielded ops a.tmps) = true := by simp [Region.wanted, hgd]
  rw [if_pos hw]
  unfold Oper.wp execOp
  simp only [ho, resolve, invoke, builtin, Sem.run_bind, Sem.run_pure, Result.andThen_ok, List.map_toArray, List.map_cons, List.map_nil, hs, hx, hr]
  exact h
theorem rput_pre {pre rest : List (Int × Int)} {p : Int} (h : ∀ g ∈ pre, g.1 + g.2 < p) : rput (pre ++ rest) p = pre ++ rput rest p := by
  induction pre with
  | nil => rfl
  | cons g pre ih =>
    obtain ⟨f, s⟩ := g
    have h1 : f + s < p := h (f, s) (by simp)
    rw [List.cons_append, rput.eq_def]
    dsimp only
    rw [if_pos h1, ih (fun x hx => h x (by simp [hx]))]
    rfl
theorem rput_join {f s p : Int} {rest : List (Int × Int)} (h : f + s = p) (h2 : ∀ f' s' r', rest = (f', s') :: r' → f' ≠ p + 1) : rput ((f, s) :: rest) p = (f, s + 1) :: rest := by
  rw [rput.eq_def]
  dsimp only
  rw [if_neg (by omega), if_pos h]
  cases rest with
  | nil => rfl
  | cons g r =>
    obtain ⟨f', s'⟩ := g
    dsimp only
    rw [if_neg (h2 f' s' r rfl)]
theorem rput_join2 {f s p f' s' : Int} {rest : List (Int × Int)} (h : f + s = p) (h2 : f' = p + 1) : rput ((f, s) :: (f', s') :: rest) p = (f, s + 1 + s') :: rest := by
  rw [rput.eq_def]
  dsimp only
  rw [if_neg (by omega), if_pos h, if_pos h2]
theorem rput_front {f s p : Int} {rest : List (Int × Int)} (h1 : ¬ f + s < p) (h2 : ¬ f + s = p) (h3 : f = p + 1) : rput ((f, s) :: rest) p = (p, s + 1) :: rest := by
  rw [rput.eq_def]
  dsimp only
  rw [if_neg h1, if_neg h2, if_pos h3]
theorem rput_insert {f s p : Int} {rest : List (Int × Int)} (h1 : ¬ f + s < p) (h2 : ¬ f + s = p) (h3 : ¬ f = p + 1) : rput ((f, s) :: rest) p = (p, 1) :: (f, s) :: rest := by
  rw [rput.eq_def]
  dsimp only
  rw [if_neg h1, if_neg h2, if_neg h3]
theorem flatG_set {pre rest : List (Int × Int)} {f s u : Int} : (flatG (pre ++ (f, s) :: rest)).set (pre.length * 2 + 1) (.int .i64 u) = flatG (pre ++ (f, u) :: rest) := by
  rw [flatG_append, flatG_append, ← flatG_len pre, List.set_append_right _ _ (by omega), Nat.add_sub_cancel_left]
  rfl
theorem flatG_set0 {pre rest : List (Int × Int)} {f s u : Int} : (flatG (pre ++ (f, s) :: rest)).set (pre.length * 2) (.int .i64 u) = flatG (pre ++ (u, s) :: rest) := by
  rw [flatG_append, flatG_append, ← flatG_len pre, List.set_append_right _ _ (Nat.le_refl _), Nat.sub_self]
  rfl
theorem flatG_one (gs : List (Int × Int)) : ∀ u ∈ flatG gs, u.oneCell' = true := by
  intro u hu
  unfold flatG at hu
  obtain ⟨g, _, hu⟩ := List.mem_flatMap.1 hu
  simp at hu
  rcases hu with rfl | rfl <;> rfl
theorem flatG_take (pre rest : List (Int × Int)) : (flatG (pre ++ rest)).take (pre.length * 2) = flatG pre := by
  rw [flatG_append, ← flatG_len pre, List.take_left]
theorem flatG_right (pre rest : List (Int × Int)) (j : Nat) : (flatG rest)[j]? = (flatG (pre ++ rest))[pre.length * 2 + j]? := by
  rw [flatG_append, List.getElem?_append_right (by rw [flatG_len]; omega), flatG_len, Nat.add_sub_cancel_left]
/-- Appending gaps that lie somewhere to a row of gaps of one's own. -/
theorem append_gaps {w : World} {B g n cap : Nat} {xs ys : List (Int × Int)} (hown : w.ownsRow B 40 2 (.slice (some ⟨g, 0, none⟩) n cap) n (flatG xs)) (ad : Addr) (m c : Nat) (hm : ys.length = m)
    (hc : ∀ j u, (flatG ys)[j]? = some u → w.cell? (ad.add j) = some u) (hb : (n + m) ≤ 536870912) (hB : B ≤ w.heap.size) :
    ∃ g' cap' w', (Builtin.append_ #[37, 37] 37 #[.slice (some ⟨g, 0, none⟩) n cap, .slice (some ad) m c]).run Try.prog w = .ok (.slice (some ⟨g', 0, none⟩) (n + m) cap') w' ∧
      w'.ownsRow B 40 2 (.slice (some ⟨g', 0, none⟩) (n + m) cap') (n + m) (flatG (xs ++ ys)) ∧ Keeps (fun k => k = g) w w' := by
  obtain ⟨i0, hi, hz0, hz1, hz2⟩ := info_parts info40f
  obtain ⟨v', w2, hap, ho, hg, hnn⟩ := run_append_own (P := Try.prog) w B 37 37 40 i0 (.agg #[.int .i64 0, .int .i64 0]) 2 16 Try.underlying37 hi hz0 hz1 hz2 rfl (by decide) _ n (flatG xs) hown ad m c (flatG ys) (by rw [flatG_len, hm])
    hc (flatG_one _) (by unfold maxLen; omega) (by omega) hB
  rw [← flatG_append] at ho
  rcases ho.2 with ⟨h0, _⟩ | ⟨g', cap', cur, hv, _⟩
  · rw [hnn] at h0
    cases h0.1
  · subst hv
    refine ⟨g', cap', w2, hap, ho, ⟨hg.os, hg.tape, hg.output, hg.size, fun k hk hne => hg.block k hk (fun e => hne ?_)⟩⟩
    simpa [Value.ownBlock] using e
/-- 'append(l[:k], append([]Gap{{p, 1}}, l[k:]...)...)': both runs. -/
theorem insert_runs {wd : World} {B g cap N k m c : Nat} {pre rest : List (Int × Int)} {p : Int} (ho : wd.ownsRow B 40 2 (.slice (some ⟨g, 0, none⟩) N cap) N (flatG (pre ++ rest))) (hpl : pre.length = k) (hm : rest.length = m) (hB : B ≤ wd.heap.size) (hb : k + m ≤ 268435456) (hkN : k ≤ N)
    (ad : Addr) (hc : ∀ j u, (flatG rest)[j]? = some u → wd.cell? (ad.add j) = some u) :
    ∃ g1 cap1 w1 g2 cap2 w2, (Builtin.append_ #[37, 37] 37 #[.slice (some ⟨wd.heap.size, 0, none⟩) 1 1, .slice (some ad) m c]).run Try.prog (wd.alloc (.cells #[.int .i64 p, .int .i64 1] 40)) = .ok (.slice (some ⟨g1, 0, none⟩) (1 + m) cap1) w1 ∧
      (Builtin.append_ #[37, 37] 37 #[.slice (some ⟨g, 0, none⟩) k cap, .slice (some ⟨g1, 0, none⟩) (1 + m) cap1]).run Try.prog w1 = .ok (.slice (some ⟨g2, 0, none⟩) (k + (1 + m)) cap2) w2 ∧
      w2.ownsRow B 40 2 (.slice (some ⟨g2, 0, none⟩) (k + (1 + m)) cap2) (k + (1 + m)) (flatG (pre ++ (p, 1) :: rest)) ∧ Keeps (fun k => B ≤ k) wd w2 := by
  have hgp := own_parts ho
  have hlit := World.ownsRow_lit (base := wd.heap.size) (e := 40) (size := 2) wd #[.int .i64 p, .int .i64 1] 1 (Nat.le_refl _) (by decide) rfl
  have hlit' : (wd.alloc (.cells #[.int .i64 p, .int .i64 1] 40)).ownsRow wd.heap.size 40 2 (.slice (some ⟨wd.heap.size, 0, none⟩) 1 1) 1 (flatG [(p, 1)]) := hlit
  obtain ⟨g1, cap1, w1, hr1, ho1, hk1⟩ := append_gaps hlit' ad m c hm (fun j u hj => by have := hc j u hj; rw [World.cell?_alloc_lt _ _ _ (cell_lt this)]; exact this) (by omega) (by simp)
  have hka : Keeps (fun k => B ≤ k) wd w1 := ((Keeps.refl (fun k => B ≤ k) wd).alloc _).trans hk1 (fun i hi e => by omega)
  have hkf : Keeps (fun k => k = wd.heap.size) wd w1 := ((Keeps.refl (fun k => k = wd.heap.size) wd).alloc _).trans hk1 (fun i hi e => e)
  have hog := ownsRow_keeps ho hkf (fun g' hg' e => by
    have : g' = g := by simpa [Value.ownBlock] using hg'.symm
    omega)
  have hot := own_take hog hkN
  rw [← hpl, flatG_take, hpl] at hot
  obtain ⟨_, _, _, _, hcc, _⟩ := own_parts ho1
  obtain ⟨g2, cap2, w2, hr2, ho2, hk2⟩ := append_gaps hot ⟨g1, 0, none⟩ (1 + m) cap1 (ys := [(p, 1)] ++ rest) (by simp [hm]; omega) (fun j u hj => by rw [addr_add, Nat.zero_add]; exact hcc j u hj) (by omega) (Nat.le_trans hB hkf.size)
  exact ⟨g1, cap1, w1, g2, cap2, w2, hr1, hr2, ho2, hka.trans hk2 (fun i hi e => by subst e; exact hgp.1)⟩
end Go.Proofs.Ytbffclcjhcbejaa
namespace Go.Proofs.Ytbffclcjhcbejaa
open Go.RowKit
def PutPost (B : Nat) (rs : List (Int × Int)) (w : World) (e : Ending) (w' : World) : Prop :=
  ∃ g' cap', e = .returned (.slice (some ⟨g', 0, none⟩) rs.length cap') ∧ w'.ownsRow B 40 2 (.slice (some ⟨g', 0, none⟩) rs.length cap') rs.length (flatG rs) ∧ Keeps (fun k => B ≤ k) w w'
theorem put_front_fin {w W : World} {B g cap N k : Nat} {gs pre rest : List (Int × Int)} {f s p : Int} (hk : Keeps (fun k => B ≤ k) w W) (ho : W.ownsRow B 40 2 (.slice (some ⟨g, 0, none⟩) N cap) N (flatG gs)) (hs : gs = pre ++ (f, s) :: rest) (hpl : pre.length = k) (hN : gs.length = N)
    (hR : rput gs p = pre ++ (p, s + 1) :: rest) : PutPost B (rput gs p) w (.returned (.slice (some ⟨g, 0, none⟩) N cap)) ((W.setCell ⟨g, k * 2, none⟩ (.int .i64 p)).setCell ⟨g, k * 2 + 1, none⟩ (.int .i64 (s + 1))) := by
  have hBg := (own_parts ho).1
  have hl : (flatG gs).length = N * 2 := by rw [flatG_len, hN]
  have hkN : k < N := by rw [← hN, hs, ← hpl]; simp
  have h1 := own_set ho (j := k * 2) (by omega) (.int .i64 p)
  have h2 := own_set h1 (j := k * 2 + 1) (by rw [List.length_set]; omega) (.int .i64 (s + 1))
  rw [hs, ← hpl, flatG_set0, flatG_set, ← hR] at h2
  have hlen : (rput gs p).length = N := by rw [hR, ← hN, hs]; simp
  refine ⟨g, cap, by rw [hlen], by rw [hlen]; rw [hpl] at h2; exact h2, ?_⟩
  exact (hk.setCell (p := ⟨g, k * 2, none⟩) (Or.inr hBg) _).setCell (p := ⟨g, k * 2 + 1, none⟩) (Or.inr hBg) _
theorem put_join_fin {w W : World} {B g cap N k : Nat} {gs pre rest : List (Int × Int)} {f s p : Int} (hk : Keeps (fun k => B ≤ k) w W) (ho : W.ownsRow B 40 2 (.slice (some ⟨g, 0, none⟩) N cap) N (flatG gs)) (hs : gs = pre ++ (f, s) :: rest) (hpl : pre.length = k) (hN : gs.length = N)
    (hR : rput gs p = pre ++ (f, s + 1) :: rest) : PutPost B (rput gs p) w (.returned (.slice (some ⟨g, 0, none⟩) N cap)) (W.setCell ⟨g, k * 2 + 1, none⟩ (.int .i64 (s + 1))) := by
  have hBg := (own_parts ho).1
  have hl : (flatG gs).length = N * 2 := by rw [flatG_len, hN]
  have hkN : k < N := by rw [← hN, hs, ← hpl]; simp
  have h2 := own_set ho (j := k * 2 + 1) (by omega) (.int .i64 (s + 1))
  rw [hs, ← hpl, flatG_set, ← hR] at h2
  have hlen : (rput gs p).length = N := by rw [hR, ← hN, hs]; simp
  refine ⟨g, cap, by rw [hlen], by rw [hlen]; rw [hpl] at h2; exact h2, ?_⟩
  exact hk.setCell (p := ⟨g, k * 2 + 1, none⟩) (Or.inr hBg) _
theorem put_ins_fin {w w2 : World} {B g2 cap2 k m Q : Nat} {gs pre rest : List (Int × Int)} {p : Int} (hk : Keeps (fun k => B ≤ k) (w.drewN Q) w2) (ho : w2.ownsRow B 40 2 (.slice (some ⟨g2, 0, none⟩) (k + (1 + m)) cap2) (k + (1 + m)) (flatG (pre ++ (p, 1) :: rest)))
    (hR : rput gs p = pre ++ (p, 1) :: rest) (hpl : pre.length = k) (hm : rest.length = m) : PutPost B (rput gs p) w (.returned (.slice (some ⟨g2, 0, none⟩) (k + (1 + m)) cap2)) w2 := by
  have hlen : (rput gs p).length = k + (1 + m) := by rw [hR, ← hpl, ← hm]; simp; omega
  exact ⟨g2, cap2, by rw [hlen], by rw [hlen, hR]; exact ho, (((Keeps.refl (fun k => B ≤ k) w).drewN Q).trans hk (fun _ _ e => e))⟩
theorem delete_run {wd : World} {B g cap N k m c : Nat} {pre rest : List (Int × Int)} {x y : Int × Int} (ho : wd.ownsRow B 40 2 (.slice (some ⟨g, 0, none⟩) N cap) N (flatG (pre ++ x :: y :: rest))) (hpl : pre.length + 1 = k) (hm : rest.length = m) (hN : k ≤ N) (hB : B ≤ wd.heap.size) (hb : k + m ≤ 268435456)
    (ad : Addr) (hc : ∀ j u, (flatG rest)[j]? = some u → wd.cell? (ad.add j) = some u) :
    ∃ g' cap' w', (Builtin.append_ #[37, 37] 37 #[.slice (some ⟨g, 0, none⟩) k cap, .slice (some ad) m c]).run Try.prog wd = .ok (.slice (some ⟨g', 0, none⟩) (k + m) cap') w' ∧
      w'.ownsRow B 40 2 (.slice (some ⟨g', 0, none⟩) (k + m) cap') (k + m) (flatG (pre ++ x :: rest)) ∧ Keeps (fun k => B ≤ k) wd w' := by
  have hgp := own_parts ho
  have hot := own_take ho hN
  have e1 : pre ++ x :: y :: rest = (pre ++ [x]) ++ (y :: rest) := by simp
  have e2 : pre ++ x :: rest = (pre ++ [x]) ++ rest := by simp
  have e3 : (pre ++ [x]).length = k := by simp [hpl]
  rw [e1, ← e3, flatG_take, e3] at hot
  obtain ⟨g', cap', w', hr, ho', hk⟩ := append_gaps hot ad m c hm hc (by omega) hB
  exact ⟨g', cap', w', hr, by rw [e2]; exact ho', ⟨hk.os, hk.tape, hk.output, hk.size, fun i hi hne => hk.block i hi (fun e => hne (by subst e; exact hgp.1))⟩⟩
theorem put_del_fin {w w2 : World} {B g2 cap2 k m : Nat} {gs pre rest : List (Int × Int)} {x : Int × Int} {p : Int} (hk : Keeps (fun k => B ≤ k) w w2) (ho : w2.ownsRow B 40 2 (.slice (some ⟨g2, 0, none⟩) (k + m) cap2) (k + m) (flatG (pre ++ x :: rest)))
    (hR : rput gs p = pre ++ x :: rest) (hpl : pre.length + 1 = k) (hm : rest.length = m) : PutPost B (rput gs p) w (.returned (.slice (some ⟨g2, 0, none⟩) (k + m) cap2)) w2 := by
  have hlen : (rput gs p).length = k + m := by rw [hR, ← hpl, ← hm]; simp; omega
  exact ⟨g2, cap2, by rw [hlen], by rw [hlen, hR]; exact ho, hk⟩
/-- A gap's size is turned. -/
theorem put_turn {w W : World} {B g cap N k : Nat} {gs pre rest : List (Int × Int)} {f s u : Int} (hk : Keeps (fun k => B ≤ k) w W) (ho : W.ownsRow B 40 2 (.slice (some ⟨g, 0, none⟩) N cap) N (flatG gs)) (hs : gs = pre ++ (f, s) :: rest) (hpl : pre.length = k) (hN : gs.length = N) :
    (W.setCell ⟨g, k * 2 + 1, none⟩ (.int .i64 u)).ownsRow B 40 2 (.slice (some ⟨g, 0, none⟩) N cap) N (flatG (pre ++ (f, u) :: rest)) ∧ Keeps (fun k => B ≤ k) w (W.setCell ⟨g, k * 2 + 1, none⟩ (.int .i64 u)) := by
  have hBg := (own_parts ho).1
  have hl : (flatG gs).length = N * 2 := by rw [flatG_len, hN]
  have hkN : k < N := by rw [← hN, hs, ← hpl]; simp
  have h2 := own_set ho (j := k * 2 + 1) (by omega) (.int .i64 u)
  rw [hs, ← hpl, flatG_set] at h2
  rw [hpl] at h2
  exact ⟨h2, hk.setCell (p := ⟨g, k * 2 + 1, none⟩) (Or.inr hBg) _⟩
set_option maxRecDepth 100000 in
set_option maxHeartbeats 8000000 in
theorem put_any (B g cap : Nat) (gs : List (Int × Int)) (p : Int) (w : World) (ho : w.ownsRow B 40 2 (.slice (some ⟨g, 0, none⟩) gs.length cap) gs.length (flatG gs)) (hB : B ≤ w.heap.size) (hok : GapOk gs) (hp0 : 16 ≤ p) (hp1 : p ≤ 4294967295) (hlen : gs.length ≤ 268435456) :
    Calls Try.prog 48 #[.slice (some ⟨g, 0, none⟩) gs.length cap, .int .i64 p] w (PutPost B (rput gs p) w) := by
  have HO := Lib.hid ho
  have HOK := Lib.hid hok
  have HB := Lib.hid hB
  obtain ⟨hBg, hgw, hnc, hcm, hcl, hfz⟩ := own_parts ho
  have HCL := Lib.hid hcl
  have HFZ := Lib.hid hfz
  obtain ⟨N, hN⟩ : ∃ N, gs.length = N := ⟨_, rfl⟩
  have HN := Lib.hid hN
  rw [hN] at hlen hnc HO ⊢
  unfold maxLen at hcm
  clear ho hok hcl hfz hN hB
  go_enter Try.func48, Try.ntmps48
  go_wp2_with fail
  go_loopw [5] (fun i wr => ∃ k : Nat, k ≤ N ∧ i = .int .i64 k ∧ Hid (∀ x ∈ gs.take k, x.1 + x.2 < p) ∧ Hid (∃ q, wr = w.drewN q)) (fun i _ => N - (intOf i).toNat)
  case atStart => exact ⟨0, Nat.zero_le _, rfl, (fun x hx => by simp at hx), 0, rfl⟩
  case round =>
    obtain ⟨k, hk, rfl, HF, HQ⟩ := hrel
    obtain ⟨q, rfl⟩ := HQ.out
    clear HQ
    by_cases hlt : k < N
    · have hkl : k < gs.length := by rw [HN.out]; exact hlt
      obtain ⟨f, s, hp⟩ : ∃ f s, gs[k]? = some (f, s) := ⟨_, _, List.getElem?_eq_getElem hkl⟩
      have d1 := HCL.out _ _ (flatG_at hp).1
      have d2 := HCL.out _ _ (flatG_at hp).2
      dsimp only at d1 d2
      obtain ⟨hb1, hb2, hb3⟩ := HOK.out (f, s) (List.mem_of_getElem? hp)
      dsimp only at hb1 hb2 hb3
      have HP := Lib.hid hp
      have HSP : Hid (gs = gs.take k ++ (f, s) :: gs.drop (k + 1)) := by
        show gs = _
        have h1 : gs[k] = (f, s) := by rw [List.getElem?_eq_getElem hkl] at hp; exact Option.some.inj hp
        rw [← h1, ← List.drop_eq_getElem_cons hkl, List.take_append_drop]
      have HPL : Hid ((gs.take k).length = k) := by show (gs.take k).length = k; rw [List.length_take]; omega
      clear hp
      have e2 : IntKind.i64.wrap (f + s) = f + s := IntWalk.i64_in _ (by omega)
      have e5 : (0 : Int) ≤ (k : Int) := by omega
      have e6 : (k : Int) < ((N : Nat) : Int) := by omega
      by_cases c1 : f + s < p
      · have HS : Hid (∀ x ∈ gs.take (k + 1), x.1 + x.2 < p) := by
          intro x hx
          obtain ⟨_, h1⟩ := List.getElem?_eq_some_iff.1 HP.out
          rw [List.take_succ_eq_append_getElem hkl, h1] at hx
          rcases List.mem_append.1 hx with hx | hx
          · exact HF.out x hx
          · obtain rfl : x = (f, s) := by simpa using hx
            exact c1
        go_wp2_with fail
        go_quiet (fail)
        clear e2
        go_wp2_with fail
        go_roundw
        case rel => exact ⟨k + 1, by omega, by go_num, HS.out, _, rfl⟩
        case measure => simp [intOf]; omega
      · have c1' : decide (f + s < p) = false := by simpa using c1
        by_cases c2 : f + s = p
        · have c2' : (f + s == p) = true := by simpa using c2
          have C2 := Lib.hid c2
          clear c2
          have e4 : IntKind.i64.wrap (s + 1) = s + 1 := IntWalk.i64_in _ (by omega)
          have z2 := HFZ.out (k * 2 + 1)
          by_cases hk1 : k + 1 < N
          · have hkl' : k + 1 < gs.length := by rw [HN.out]; exact hk1
            obtain ⟨f', s', hp'⟩ : ∃ f s, gs[k + 1]? = some (f, s) := ⟨_, _, List.getElem?_eq_getElem hkl'⟩
            have d1' := HCL.out _ _ (flatG_at hp').1
            have d2' := HCL.out _ _ (flatG_at hp').2
            dsimp only at d1' d2'
            obtain ⟨hb1', hb2', hb3'⟩ := HOK.out (f', s') (List.mem_of_getElem? hp')
            dsimp only at hb1' hb2' hb3'
            have HP' := Lib.hid hp'
            clear hp'
            by_cases c4 : f' = p + 1
            · have c4' : (f' == p + 1) = true := by simpa using c4
              have HSP2 : Hid (gs.drop (k + 1) = (f', s') :: gs.drop (k + 2)) := by
                show gs.drop (k + 1) = _
                obtain ⟨h0, h1⟩ := List.getElem?_eq_some_iff.1 HP'.out
                rw [List.drop_eq_getElem_cons h0, h1]
              have HR : Hid (rput gs p = gs.take k ++ (f, s + 1 + s') :: gs.drop (k + 2)) := by
                show rput gs p = _
                conv => lhs; rw [HSP.out, HSP2.out]
                rw [rput_pre HF.out, rput_join2 C2.out c4]
              clear c4
              go_wp2_with fail
              go_quiet (fail)
              revert nq
              intro nq1
              go_wp2_with fail
              go_quiet (fail)
              go_wp2_with fail
              obtain ⟨ho1, hk1w⟩ := put_turn (W := w.drewN (q + nq1 + nq)) (u := s + 1) ((Keeps.refl (fun k => B ≤ k) w).drewN _) HO.out HSP.out HPL.out HN.out
              rw [HSP2.out] at ho1
              generalize (w.drewN (q + nq1 + nq)).setCell ⟨g, k * 2 + 1, none⟩ (.int .i64 (s + 1)) = W1 at ho1 hk1w ⊢
              obtain ⟨ho2, hk2w⟩ := put_turn (W := W1) (u := s + 1 + s') hk1w ho1 rfl HPL.out (by rw [← HSP2.out, List.length_append, List.length_cons, HPL.out, List.length_drop, HN.out]; omega)
              obtain ⟨k1, hkk1⟩ : ∃ k1, k1 = k + 1 := ⟨_, rfl⟩
              obtain ⟨k2, hkk2⟩ : ∃ k2, k2 = k + 2 := ⟨_, rfl⟩
              obtain ⟨_, _, _, _, hcl1, hfz1⟩ := own_parts ho1
              have hat : (gs.take k ++ (f, s + 1) :: (f', s') :: gs.drop (k + 2))[k]? = some (f, s + 1) := by rw [List.getElem?_append_right (by rw [HPL.out]; exact Nat.le_refl _), HPL.out, Nat.sub_self]; rfl
              have hat' : (gs.take k ++ (f, s + 1) :: (f', s') :: gs.drop (k + 2))[k1]? = some (f', s') := by rw [List.getElem?_append_right (by rw [HPL.out]; omega), HPL.out, hkk1, Nat.add_sub_cancel_left]; rfl
              have d3 := hcl1 _ _ (flatG_at hat).2
              have d4 := hcl1 _ _ (flatG_at hat').2
              have z3 := hfz1 (k * 2 + 1)
              dsimp only at d3 d4
              have HO2 := Lib.hid ho2
              have HK2 := Lib.hid hk2w
              have HKK1 := Lib.hid hkk1
              have HKK2 := Lib.hid hkk2
              have a1 : IntKind.i64.wrap ((k : Int) + 1) = (k1 : Int) := by rw [IntWalk.i64_in _ (by omega)]; omega
              have a2 : IntKind.i64.wrap ((k : Int) + 2) = (k2 : Int) := by rw [IntWalk.i64_in _ (by omega)]; omega
              have a3 : IntKind.i64.wrap (s + 1 + s') = s + 1 + s' := IntWalk.i64_in _ (by omega)
              have a4 : (0 : Int) ≤ (k1 : Int) := by omega
              have a5 : (k1 : Int) < ((N : Nat) : Int) := by omega
              have a6 : (0 : Int) ≤ (k2 : Int) := by omega
              have a7 : (k2 : Int) ≤ ((N : Nat) : Int) := by omega
              clear ho1 hk1w ho2 hk2w hkk1 hkk2 hcl1 hfz1 hat hat' d1 d2 d1' d2'
              go_still_tail 14, (by kernel_rfl)
              change wpList _ _ _ _ _ W1.drew
              go_wp2_with fail
              have ho3 := HO2.out
              have hk3 := HK2.out
              generalize W1.setCell ⟨g, k * 2 + 1, none⟩ (.int .i64 (s + 1 + s')) = W2 at ho3 hk3 ⊢
              have hpl1 : (gs.take k).length + 1 = k1 := by rw [HPL.out, HKK1.out]
              have hdl : (gs.drop (k + 2)).length = N - k2 := by rw [List.length_drop, HN.out, HKK2.out]
              have hB2 : B ≤ W2.drew.drew.heap.size := Nat.le_trans HB.out hk3.size
              have hle1 : k1 ≤ N := by omega
              have hle2 : k1 ≤ cap := by omega
              have hle3 : k2 ≤ N := by omega
              have hle4 : k2 ≤ cap := by omega
              have hle5 : (k2 : Int) ≤ ((cap : Nat) : Int) := by omega
              have hle6 : (k1 : Int) ≤ ((cap : Nat) : Int) := by omega
              have hsum : k1 + (N - k2) ≤ 268435456 := by have i1 := HKK1.out; have i2 := HKK2.out; omega
              by_cases hcap2 : cap = k2
              · obtain rfl : k2 = N := by omega
                obtain rfl : k2 = cap := hcap2.symm
                obtain ⟨g2, cap2, w2, hr, ho4, hk4⟩ := delete_run (wd := W2.drew.drew) (c := 0) (m := 0) (k := k1) (ho3.drew.drew) hpl1 (by rw [hdl, Nat.sub_self]) hle1 hB2 (by omega) ⟨g, 0, none⟩ (fun j u hj => by
                  rw [List.eq_nil_of_length_eq_zero (hdl.trans (Nat.sub_self _))] at hj
                  simp [flatG] at hj)
                have HAP := Lib.hid hr
                have HFIN : Hid (PutPost B (rput gs p) w (.returned (.slice (some ⟨g2, 0, none⟩) (k1 + 0) cap2)) w2) := put_del_fin (hk3.drew.drew.trans hk4 (fun _ _ e => e)) ho4 HR.out hpl1 (by rw [hdl, Nat.sub_self])
                clear ho3 hk3 hr ho4 hk4 hpl1 hdl
                go_region_held3 (fun _ => True) (trivial) (first | (refine step_append_eq (by rfl) (.tmp 87) (.tmp 91) 37 (by rfl) (by rfl) (by rfl) HAP.out ?_))
                go_wp2_with fail
                go_ret
                exact HFIN.out
              · obtain ⟨g2, cap2, w2, hr, ho4, hk4⟩ := delete_run (wd := W2.drew.drew) (c := cap - k2) (m := N - k2) (k := k1) (ho3.drew.drew) hpl1 hdl hle1 hB2 (by omega) ⟨g, k2 * 2, none⟩ (fun j u hj => by
                  have h1 := flatG_right (gs.take k ++ [(f, s + 1 + s'), (f', s')]) (gs.drop (k + 2)) j
                  rw [List.append_assoc, List.length_append, HPL.out] at h1
                  rw [h1] at hj
                  rw [addr_add, HKK2.out]
                  exact (own_parts ho3).2.2.2.2.1 _ _ hj)
                have HAP := Lib.hid hr
                have HFIN : Hid (PutPost B (rput gs p) w (.returned (.slice (some ⟨g2, 0, none⟩) (k1 + (N - k2)) cap2)) w2) := put_del_fin (hk3.drew.drew.trans hk4 (fun _ _ e => e)) ho4 HR.out hpl1 hdl
                clear ho3 hk3 hr ho4 hk4 hpl1 hdl
                go_region_held3 (fun _ => True) (trivial) (first | (refine step_append_eq (by rfl) (.tmp 87) (.tmp 91) 37 (by rfl) (by rfl) (by rfl) HAP.out ?_))
                go_wp2_with fail
                go_ret
                exact HFIN.out
            · have c4' : (f' == p + 1) = false := by simpa using c4
              have HR : Hid (rput gs p = gs.take k ++ (f, s + 1) :: gs.drop (k + 1)) := by
                show rput gs p = _
                conv => lhs; rw [HSP.out]
                rw [rput_pre HF.out, rput_join C2.out (fun f2 s2 r2 h => by
                  obtain ⟨h0, h1⟩ := List.getElem?_eq_some_iff.1 HP'.out
                  rw [List.drop_eq_getElem_cons h0, h1] at h
                  simp only [List.cons.injEq, Prod.mk.injEq] at h
                  rw [← h.1.1]
                  exact c4)]
              clear c4
              go_wp2_with fail
              go_quiet (fail)
              go_wp2_with fail
              go_quiet (fail)
              go_wp2_with fail
              go_ret
              exact put_join_fin ((Keeps.refl _ _).drewN _) HO.out HSP.out HPL.out HN.out HR.out
          · have hk1' : decide ((k : Int) + 1 < (N : Int)) = false := by simp; omega
            have HR : Hid (rput gs p = gs.take k ++ (f, s + 1) :: gs.drop (k + 1)) := by
              show rput gs p = _
              conv => lhs; rw [HSP.out]
              rw [rput_pre HF.out, rput_join C2.out (fun f' s' r' h => by rw [List.drop_eq_nil_of_le (by rw [HN.out]; omega)] at h; cases h)]
            go_wp2_with fail
            go_quiet (fail)
            go_wp2_with fail
            go_quiet (fail)
            go_wp2_with fail
            go_ret
            exact put_join_fin ((Keeps.refl _ _).drewN _) HO.out HSP.out HPL.out HN.out HR.out
        · have c2' : (f + s == p) = false := by simpa using c2
          by_cases c3 : f = p + 1
          · have c3' : (f == p + 1) = true := by simpa using c3
            have e3 : IntKind.i64.wrap (p + 1) = p + 1 := IntWalk.i64_in _ (by omega)
            have e4 : IntKind.i64.wrap (s + 1) = s + 1 := IntWalk.i64_in _ (by omega)
            have z1 := HFZ.out (k * 2)
            have z2 := HFZ.out (k * 2 + 1)
            have HR : Hid (rput gs p = gs.take k ++ (p, s + 1) :: gs.drop (k + 1)) := by
              show rput gs p = _
              conv => lhs; rw [HSP.out]
              rw [rput_pre HF.out, rput_front c1 c2 c3]
            go_wp2_with fail
            go_quiet (fail)
            go_wp2_with fail
            go_quiet (fail)
            go_wp2_with fail
            go_ret
            exact put_front_fin ((Keeps.refl _ _).drewN _) HO.out HSP.out HPL.out HN.out HR.out
          · have c3' : (f == p + 1) = false := by simpa using c3
            have e3 : IntKind.i64.wrap (p + 1) = p + 1 := IntWalk.i64_in _ (by omega)
            have HR : Hid (rput gs p = gs.take k ++ (p, 1) :: gs.drop k) := by
              show rput gs p = _
              conv => lhs; rw [HSP.out]
              rw [rput_pre HF.out, rput_insert c1 c2 c3]
              congr 2
              obtain ⟨_, h1⟩ := List.getElem?_eq_some_iff.1 HP.out
              rw [← h1, ← List.drop_eq_getElem_cons hkl]
            go_wp2_with fail
            go_quiet (fail)
            revert nq
            intro nq1
            go_wp2_with fail
            go_quiet (fail)
            revert nq
            intro nq2
            go_wp2_with fail
            generalize q + nq1 + nq2 = q2
            obtain ⟨g1, cap1, w1, g2, cap2, w2, hr1, hr2, ho2, hk2⟩ := insert_runs (wd := w.drewN (q2 + 1)) (p := p) (c := cap - k) (pre := gs.take k) (rest := gs.drop k) (N := N) (cap := cap) (by rw [List.take_append_drop]; exact HO.out) (k := k) (m := N - k) HPL.out (by rw [List.length_drop, HN.out]) HB.out (by omega) (by omega) ⟨g, k * 2, none⟩ (fun j u hj => by
              have h1 := flatG_right (gs.take k) (gs.drop k) j
              rw [List.take_append_drop, HPL.out] at h1
              rw [h1] at hj
              rw [addr_add]
              exact HCL.out _ _ hj)
            have HAP1 := Lib.hid hr1
            have HAP2 := Lib.hid hr2
            have HO2 := Lib.hid ho2
            have HK2 := Lib.hid hk2
            clear hr1 hr2 ho2 hk2
            have hcapk : ¬ cap = k := by omega
            have hkc : k ≤ cap := by omega
            have hkc' : k ≤ N := by omega
            go_region_held3 (fun _ => True) (trivial) (first | (refine step_append_eq (by rfl) (.tmp 125) (.tmp 128) 37 (by rfl) (by rfl) (by rfl) HAP1.out ?_) | (refine step_append_eq (by rfl) (.tmp 122) (.tmp 129) 37 (by rfl) (by rfl) (by rfl) HAP2.out ?_))
            go_wp2_with fail
            go_ret
            exact put_ins_fin HK2.out HO2.out HR.out HPL.out (by rw [List.length_drop, HN.out])
    · go_wp2_with fail
      go_quiet (fail)
      revert nq
      intro nq1
      go_wp2_with fail
      go_quiet (fail)
      go_wp2_with fail
      generalize q + nq1 + nq = q2
      obtain rfl : k = N := by omega
      have HR : Hid (rput gs p = gs ++ (p, 1) :: []) := by
        have h1 := HF.out
        rw [List.take_of_length_le (by rw [HN.out]; omega)] at h1
        have h2 := rput_pre (rest := []) h1
        rw [List.append_nil] at h2
        exact h2
      have HON : Hid (∀ Q, (w.drewN Q).ownsRow B 40 2 (.slice (some ⟨g, 0, none⟩) k cap) k (flatG (gs ++ []))) := fun Q => by rw [List.append_nil]; exact HO.out
      have e5 : (0 : Int) ≤ (k : Int) := by omega
      by_cases hcapk : cap = k
      · obtain rfl : k = cap := hcapk.symm
        obtain ⟨g1, cap1, w1, g2, cap2, w2, hr1, hr2, ho2, hk2⟩ := insert_runs (p := p) (c := 0) (HON.out (q2 + 1)) (k := k) (m := 0) HN.out rfl HB.out (by omega) (by omega) ⟨g, 0, none⟩ (fun j u hj => by simp [flatG] at hj)
        have HAP1 := Lib.hid hr1
        have HAP2 := Lib.hid hr2
        have HO2 := Lib.hid ho2
        have HK2 := Lib.hid hk2
        clear hr1 hr2 ho2 hk2 hcapk
        go_region_held3 (fun _ => True) (trivial) (first | (refine step_append_eq (by rfl) (.tmp 125) (.tmp 128) 37 (by rfl) (by rfl) (by rfl) HAP1.out ?_) | (refine step_append_eq (by rfl) (.tmp 122) (.tmp 129) 37 (by rfl) (by rfl) (by rfl) HAP2.out ?_))
        go_wp2_with fail
        go_ret
        exact put_ins_fin HK2.out HO2.out HR.out HN.out rfl
      · have hck : k < cap := by omega
        obtain ⟨g1, cap1, w1, g2, cap2, w2, hr1, hr2, ho2, hk2⟩ := insert_runs (p := p) (c := cap - k) (HON.out (q2 + 1)) (k := k) (m := 0) HN.out rfl HB.out (by omega) (by omega) ⟨g, k * 2, none⟩ (fun j u hj => by simp [flatG] at hj)
        have HAP1 := Lib.hid hr1
        have HAP2 := Lib.hid hr2
        have HO2 := Lib.hid ho2
        have HK2 := Lib.hid hk2
        clear hr1 hr2 ho2 hk2
        go_region_held3 (fun _ => True) (trivial) (first | (refine step_append_eq (by rfl) (.tmp 125) (.tmp 128) 37 (by rfl) (by rfl) (by rfl) HAP1.out ?_) | (refine step_append_eq (by rfl) (.tmp 122) (.tmp 129) 37 (by rfl) (by rfl) (by rfl) HAP2.out ?_))
        go_wp2_with fail
        go_ret
        exact put_ins_fin HK2.out HO2.out HR.out HN.out rfl
end Go.Proofs.Ytbffclcjhcbejaa
