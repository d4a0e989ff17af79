/- Walk: law05's AsmJoins: what both Joins answer is the same, and the copies that came in read as they did. Conditions: what each theorem states. -/
import Derived.Test.YtlgdfacaeahcaaaDoorN1
import Derived.Test.YtlgdfacaeahcaaaDoorN2
import Derived.Test.YtlgdfacaeahcaaaDoorKA
import Derived.Test.YtlgdfacaeahcaaaDoorK1b
import Derived.Laws.StructEq
set_option linter.unusedVariables false
set_option linter.unusedSimpArgs false
namespace Go.Proofs.YtlgdfacaeahcaaaDoor
open Go.RowKit
theorem fieldsF : Tryd.prog.underlying 31 = some (.struct (Tryd.prog.fieldsOf 31)) := by kernel_rfl
theorem stoodF : Tryd.prog.stoodInHeld 31 = false := by kernel_rfl
theorem guardF : Tryd.prog.eqGuardType Tryd.prog.depth 31 = false := by kernel_rfl
theorem neq_fault (a b : Int) (w : World) : (binOp .neq 31 (.agg #[.int .i64 a, .int .i64 b]) (.agg #[.int .i64 a, .int .i64 b])).run Tryd.prog w = .ok (.bool false) w := by
  have u3 := Tryd.underlying3
  have a3 := Tryd.isAgg3
  have z3 := Tryd.sizeOf3
  rw [run_neq_struct, show (10000 : Nat) = 9999 + 1 from rfl, run_equalIn_agg w 9999 31 _ _ fieldsF stoodF]
  simp only [Program.fieldsOf, Tryd.underlying31]
  go_simp
/-- The rows of one copy. -/
structure OwnC (W : World) (B : Nat) (q : Value × Value × Value × Value) (o : Ob) : Prop where
  tx : OwnB W B q.1 o.tx
  dt : OwnB W B q.2.1 o.dt
  lb : OwnL W B q.2.2.1 o.lb
  rl : OwnR W B q.2.2.2 o.rl
theorem OwnC.below {W W' : World} {B : Nat} {q : Value × Value × Value × Value} {o : Ob} (h : OwnC W B q o) (hb : Below W.heap.size W W') : OwnC W' B q o :=
  ⟨own_below h.tx hb, own_below h.dt hb, own_below h.lb hb, own_below h.rl hb⟩
theorem OwnC.grown {W W' : World} {B k : Nat} {q : Value × Value × Value × Value} {o : Ob} {v : Value} {xs : List Value} (h : OwnC W B q o) (ho : W.ownsRow B 27 4 v k xs) (hg : W.grownBy W' v.ownBlock) : OwnC W' B q o :=
  ⟨own_grown h.tx ho hg (by decide), own_grown h.dt ho hg (by decide), own_grown h.lb ho hg (by decide), own_grown h.rl ho hg (by decide)⟩
theorem OwnC.lower {W : World} {B B' : Nat} {q : Value × Value × Value × Value} {o : Ob} (h : OwnC W B q o) (hb : B' ≤ B) : OwnC W B' q o :=
  ⟨ownsRow_lower h.tx hb, ownsRow_lower h.dt hb, ownsRow_lower h.lb hb, ownsRow_lower h.rl hb⟩
theorem OwnC.at_ {W : World} {B : Nat} {q : Value × Value × Value × Value} {o : Ob} (h : OwnC W B q o) : ObAt W q.1 q.2.1 q.2.2.1 q.2.2.2 o :=
  ⟨RowOf.own h.tx, RowOf.own h.dt, RowOf.own h.lb, RowOf.own h.rl⟩
/-- The copies that are there behind k rounds. -/
structure OC (w W : World) (B : Nat) (v : Value) (os : List Ob) (k : Nat) : Prop where
  below : Below B w W
  sz : B ≤ W.heap.size
  ex : ∃ qs : List (Value × Value × Value × Value), qs.length = k ∧ W.ownsRow B 27 4 v k (qs.flatMap QC) ∧ ∀ i (h : i < qs.length), OwnC W B qs[i] (os.getD i default)
theorem OC.bel {w W W' : World} {B k : Nat} {v : Value} {os : List Ob} (h : OC w W B v os k) (hb : Below W.heap.size W W') : OC w W' B v os k := by
  obtain ⟨qs, h1, h2, h3⟩ := h.ex
  exact ⟨h.below.trans (hb.mono h.sz), Nat.le_trans h.sz hb.size, qs, h1, own_below h2 hb, fun i hi => (h3 i hi).below hb⟩
theorem OC.osAt {w W : World} {B : Nat} {v : Value} {os : List Ob} (h : OC w W B v os os.length) : OsAt W v os := by
  obtain ⟨qs, h1, h2, h3⟩ := h.ex
  exact ⟨qs, h1, RowOf.own h2, fun i hi => (h3 i hi).at_⟩
theorem OC.form {w W : World} {B k : Nat} {v : Value} {os : List Ob} (h : OC w W B v os k) : ∃ A cap, v = .slice A k cap ∧ k ≤ cap ∧ cap ≤ maxLen := by
  obtain ⟨qs, h1, h2, h3⟩ := h.ex
  exact slice_form h2
theorem one_rowO {w : World} (z1 z2 z3 z4 : Value) : RowOf (w.alloc (.cells #[z1, z2, z3, z4] 27)) (.slice (some ⟨w.heap.size, 0, none⟩) 1 1) 1 [z1, z2, z3, z4] :=
  ⟨_, 1, rfl, Nat.le_refl _, by decide, fun _ => ⟨w.heap.size, 0, rfl, by simp, fun j u hj => by
    have := (Blk.new w 27 #[z1, z2, z3, z4]).cell (0 + j)
    rw [this]
    simpa using hj⟩⟩
/-- One copy more. -/
theorem OC.snoc {w W : World} {B k : Nat} {v : Value} {os : List Ob} (h : OC w W B v os k) (hk : k ≤ 1073741824) {z1 z2 z3 z4 : Value} (hc : OwnC W B (z1, z2, z3, z4) (os.getD k default)) :
    ∃ v' W', (Builtin.append_ #[22, 22] 22 #[v, .slice (some ⟨W.heap.size, 0, none⟩) 1 1]).run Tryd.prog (W.alloc (.cells #[z1, z2, z3, z4] 27)) = .ok v' W' ∧ OC w W' B v' os (k + 1) := by
  obtain ⟨qs, h1, h2, h3⟩ := h.ex
  have hb : Below W.heap.size W (W.alloc (.cells #[z1, z2, z3, z4] 27)) := (Below.refl _ _).alloc (Nat.le_refl _) _
  have hsz : (W.alloc (.cells #[z1, z2, z3, z4] 27)).heap.size = W.heap.size + 1 := by simp
  have hone : ∀ y ∈ [z1, z2, z3, z4], y.oneCell' = true := by
    obtain ⟨A1, c1, rfl, _⟩ := slice_form hc.tx
    obtain ⟨A2, c2, rfl, _⟩ := slice_form hc.dt
    obtain ⟨A3, c3, rfl, _⟩ := slice_form hc.lb
    obtain ⟨A4, c4, rfl, _⟩ := slice_form hc.rl
    intro y hy
    simp only [List.mem_cons, List.not_mem_nil, or_false] at hy
    rcases hy with rfl | rfl | rfl | rfl <;> rfl
  obtain ⟨v', W', r1, r2, r3, r4⟩ := app_any arowO 22 (own_below h2 hb) (one_rowO z1 z2 z3 z4) (by simp) hone (by unfold maxLen; omega) (by omega) (by have := h.sz; omega)
  have ho := own_below h2 hb
  refine ⟨v', W', r1, ?_, ?_, qs ++ [(z1, z2, z3, z4)], by simp [h1], ?_, fun i hi => ?_⟩
  · exact (h.below.alloc h.sz _).grown r3 (by have := h.sz; omega) (fun g hg => (own_some2 h2 hg).1)
  · have := r3.size; have := h.sz; omega
  · rw [List.flatMap_append]
    simpa [QC] using r2
  · by_cases c : i < qs.length
    · rw [List.getElem_append_left c]
      exact ((h3 i c).below hb).grown ho r3
    · have : i = k := by simp at hi; omega
      subst this
      have e : (qs ++ [(z1, z2, z3, z4)])[i] = (z1, z2, z3, z4) := by
        rw [List.getElem_append_right (by omega)]
        simp [h1]
      rw [e]
      exact (hc.below hb).grown ho r3
/-- Where one of the copies lies. -/
theorem OC.cells {w W : World} {B k n cap : Nat} {A : Option Addr} {os : List Ob} (h : OC w W B (.slice A n cap) os n) (hk : k < n) : ∃ g v1 v2 v3 v4, A = some ⟨g, 0, none⟩ ∧ W.cell? ⟨g, k * 4, none⟩ = some v1 ∧ W.cell? ⟨g, k * 4 + 1, none⟩ = some v2 ∧ W.cell? ⟨g, k * 4 + 2, none⟩ = some v3 ∧ W.cell? ⟨g, k * 4 + 3, none⟩ = some v4 ∧ ObAt W v1 v2 v3 v4 (os.getD k default) := by
  obtain ⟨qs, h1, h2, h3⟩ := h.ex
  obtain ⟨g, cap', e⟩ := own_some h2 (by omega)
  injection e with e1 e2 e3
  subst e1 e3
  have hc := (own_parts h2).2.2.2.2.1
  have hkq : k < qs.length := by omega
  have hh : ∀ j, j < 4 → ∀ u, (QC qs[k])[j]? = some u → W.cell? ⟨g, k * 4 + j, none⟩ = some u := fun j hj u hu => hc _ _ (by rw [flatMap_at QC 4 (fun _ => rfl) qs k hkq j hj]; exact hu)
  exact ⟨g, _, _, _, _, rfl, hh 0 (by omega) _ rfl, hh 1 (by omega) _ rfl, hh 2 (by omega) _ rfl, hh 3 (by omega) _ rfl, (h3 k hkq).at_⟩
set_option maxRecDepth 100000 in
set_option maxHeartbeats 8000000 in
theorem law_any (v : Value) (os : List Ob) (w : World) (h : OsAt w v os) (ho : OpsAt w) (h0 : 0 < w.heap.size) (hnm : ∀ o ∈ os, NmOK o) (hN : os.length ≤ 4194304) (hln : ∀ o ∈ os, o.tx.length ≤ 4194304 ∧ o.dt.length ≤ 4194304 ∧ o.lb.length ≤ 4194304 ∧ o.rl.length ≤ 4194304) (hB : ∀ k, k ≤ os.length → SzOK (joinO (os.take k))) :
    Calls Tryd.prog 3 #[v] w fun e w' => e = .returned (.bool true) ∧ Below w.heap.size w w' := by
  have HO := Lib.hid h
  have HOP := Lib.hid ho
  have HNM := Lib.hid hnm
  have HSZ := Lib.hid hB
  have HLN := Lib.hid hln
  have H0 := Lib.hid h0
  obtain ⟨A, cap, rfl, q1, q2⟩ := h.form
  unfold maxLen at q2
  obtain ⟨N, hNN⟩ : ∃ N, os.length = N := ⟨_, rfl⟩
  have HN := Lib.hid hNN
  rw [hNN] at HO hN q1 ⊢
  clear h ho hnm hB hln h0
  obtain ⟨p, hp⟩ : ∃ p, w.heap.size = p := ⟨_, rfl⟩
  have HP := Lib.hid hp
  have hbsO : ∀ w, (Instr.buildSlice 22 0 #[]).run Tryd.prog w = .ok (.slice (some ⟨w.heap.size, 0, none⟩) 0 0) (w.alloc (.cells #[] 27)) := fun _ => by kernel_rfl
  have HST : Hid (OC w (w.alloc (.cells #[] 27)) p (.slice (some ⟨p, 0, none⟩) 0 0) os 0) := by
    subst hp
    exact ⟨(Below.refl _ _).alloc (Nat.le_refl _) _, by simp, [], rfl, empty_own 27 4, fun i hi => by simp at hi⟩
  have HNEQ := Lib.hid neq_fault
  rw [hp]
  clear hNN
  go_enter Tryd.func3, Tryd.ntmps3
  go_wp2_with fail
  try rw [hp]
  clear hp
  go_loopw [4, 3] (fun iv ov W => ∃ k : Nat, k ≤ N ∧ iv = .int .i64 k ∧ Hid (OC w W p ov os k)) (fun iv _ _ => N - (intOf iv).toNat)
  case atStart => exact ⟨0, Nat.zero_le _, rfl, HST.out⟩
  case round =>
    clear HST
    obtain ⟨k, hk, rfl, HI⟩ := hrel
    generalize u3 = ov at *
    by_cases hlt : k < N
    · as_aux_lemma =>
      have hkl : k < os.length := by rw [HN.out]; exact hlt
      have HO1 := HO.out
      rw [← HN.out] at HO1
      obtain ⟨g, off, rfl, hc⟩ := HO1.at_ (by omega)
      obtain ⟨v1, v2, v3, v4, c0, c1, c2, c3, hob⟩ := hc k hkl
      obtain ⟨o, hoo⟩ : ∃ o, os.getD k default = o := ⟨_, rfl⟩
      rw [hoo] at hob
      have hmem : o ∈ os := by rw [← hoo]; simp [List.getD, hkl]
      have HOO := Lib.hid hoo
      have hbw : ∀ {a : Addr} {v : Value}, w.cell? a = some v → wr.cell? a = some v := fun h => (HI.out.below.cell (by have := cell_lt h; rw [HP.out] at this; exact this)).trans h
      replace c0 := hbw c0
      replace c1 := hbw c1
      replace c2 := hbw c2
      replace c3 := hbw c3
      have hlen := HLN.out _ hmem
      have hbel : Below w.heap.size w wr := by rw [HP.out]; exact HI.out.below
      have HCP := Lib.hid (copied_own v1 v2 v3 v4 o wr (hob.below hbel) (by omega) (by omega) (by omega) (by omega))
      obtain ⟨D1, d1, rfl, _⟩ := hob.tx.form
      obtain ⟨D2, d2, rfl, _⟩ := hob.dt.form
      obtain ⟨D3, d3, rfl, _, _⟩ := hob.lb.form
      obtain ⟨D4, d4, rfl, _, _⟩ := hob.rl.form
      clear hob hc hbw hmem hlen hbel HO1 hoo
      have e3 : (k : Int) < (N : Int) := by omega
      have e5 : (0 : Int) ≤ (k : Int) := by omega
      have e6 : IntKind.i64.wrap ((k : Int) + 1) = ((k + 1 : Nat) : Int) := by rw [IntWalk.i64_in _ (by omega)]; omega
      go_wp2_with fail
      refine HCP.out.mono ?_
      rintro e w1 ⟨z1, z2, z3, z4, rfl, t1, t2, t3, t4, hb⟩
      have hI1 := HI.out.bel hb
      have hc1 : OwnC w1 p (z1, z2, z3, z4) (os.getD k default) := by rw [HOO.out]; exact OwnC.lower (B' := p) ⟨t1, t2, t3, t4⟩ HI.out.sz
      obtain ⟨v', W', r1, r2⟩ := hI1.snoc (by omega) hc1
      have HR := Lib.hid r1
      have HI2 := Lib.hid r2
      obtain ⟨B1, b1, y1, _⟩ := slice_form t1
      obtain ⟨B2, b2, y2, _⟩ := slice_form t2
      obtain ⟨B3, b3, y3, _⟩ := slice_form t3
      obtain ⟨B4, b4, y4, _⟩ := slice_form t4
      generalize o.tx.length = l1 at y1
      generalize o.dt.length = l2 at y2
      generalize o.lb.length = l3 at y3
      generalize o.rl.length = l4 at y4
      subst y1 y2 y3 y4
      clear t1 t2 t3 t4 hb hI1 hc1 r1 r2 HI HCP c0 c1 c2 c3
      go_wp2_with (at_builtin; refine wpList_append_eq rfl (.tmp 17) (.tmp 23) 22 rfl rfl rfl HR.out ?_)
      go_roundw
      case rel => exact ⟨k + 1, by omega, by go_num, HI2.out⟩
      case measure => simp [intOf]; omega
    · obtain rfl : k = N := by omega
      have HOC : Hid (OC w wr p ov os os.length) := by rw [HN.out]; exact HI.out
      obtain ⟨A1, cap1, rfl, m1, m2⟩ := HI.out.form
      unfold maxLen at m2
      have hbel : Below w.heap.size w wr := by rw [HP.out]; exact HI.out.below
      have HJ := Lib.hid (join_any _ os wr HOC.out.osAt (HOP.out.below H0.out hbel) (Nat.lt_of_lt_of_le H0.out hbel.size) HNM.out (by rw [HN.out]; omega) HSZ.out)
      obtain ⟨B, hBB⟩ : ∃ B, wr.heap.size = B := ⟨_, rfl⟩
      have HBB := Lib.hid hBB
      clear hbel hBB hlt HI
      go_wp2_with fail
      refine HJ.out.mono ?_
      rintro e w1 ⟨A0, n0, c0, k0, z2, z3, z4, rfl, hob, hb, htx, m0, ys, hlb⟩
      obtain ⟨Jo, f1, f2, hJJ⟩ : ∃ Jo f1 f2, jres os = (Jo, f1, f2) := ⟨_, _, _, rfl⟩
      have HJJ := Lib.hid hJJ
      rw [hJJ] at hob ⊢
      dsimp only at hob ⊢
      obtain ⟨b1, hb1⟩ : ∃ b1, w1.heap.size = b1 := ⟨_, rfl⟩
      obtain ⟨A2, c2, e2, _⟩ := hob.dt.form
      obtain ⟨A3, c3, e3, _, _⟩ := hob.lb.form
      obtain ⟨A4, c4, e4, _, _⟩ := hob.rl.form
      obtain ⟨N2, hN2⟩ : ∃ n, Jo.dt.length = n := ⟨_, rfl⟩
      obtain ⟨N3, hN3⟩ : ∃ n, Jo.lb.length = n := ⟨_, rfl⟩
      obtain ⟨N4, hN4⟩ : ∃ n, Jo.rl.length = n := ⟨_, rfl⟩
      rw [hN2] at e2
      rw [hN3] at e3
      rw [hN4] at e4
      clear hJJ hN2 hN3 hN4
      subst e2
      subst e3
      subst e4
      have HA := Lib.hid hob
      have HTX := Lib.hid htx
      have HLB := Lib.hid hlb
      have HB1 := Lib.hid hb
      have HS1 := Lib.hid hb1
      clear hob htx hlb hb
      go_upto_region 7 with fail
      clear hb1
      obtain ⟨w2, hw2⟩ : ∃ w2, (w1.alloc (.cells #[.slice A0 n0 c0, .slice A2 N2 c2, .slice A3 N3 c3, .slice A4 N4 c4] 27)).alloc (.cells #[.int .i64 f1, .int .i64 f2] 31) = w2 := ⟨_, rfl⟩
      rw [hw2]
      have hb2 : Below w1.heap.size w1 w2 := by rw [← hw2]; exact ((Below.refl _ _).alloc (Nat.le_refl _) _).alloc (by simp) _
      have hblA : Blk w2 b1 27 #[.slice A0 n0 c0, .slice A2 N2 c2, .slice A3 N3 c3, .slice A4 N4 c4] := by rw [← hw2, ← HS1.out]; exact (Blk.new w1 _ _).alloc _
      have hblF : Blk w2 (b1 + 1) 31 #[.int .i64 f1, .int .i64 f2] := by rw [← hw2, ← HS1.out]; exact blk_at (by simp) _ _
      have hb02 : Below wr.heap.size wr w2 := HB1.out.trans (hb2.mono HB1.out.size)
      have HC2 := Lib.hid (HOC.out.bel hb02)
      have hbw2 : Below w.heap.size w w2 := by rw [HP.out]; exact HC2.out.below
      have HRJ := Lib.hid (rjoin_any (.slice A k cap) os w2 (HO.out.below hbw2) (HOP.out.below H0.out hbw2) (Nat.lt_of_lt_of_le H0.out hbw2.size) HNM.out (by rw [HN.out]; omega) HSZ.out)
      have HX2 : Hid (ObAt w2 (.slice A0 n0 c0) (.slice A2 N2 c2) (.slice A3 N3 c3) (.slice A4 N4 c4) Jo ∧ (∃ xs, w2.ownsRow B 5 1 (.slice A0 n0 k0) n0 xs) ∧ w2.ownsRow B 45 4 (.slice A3 N3 c3) m0 ys ∧ Blk w2 b1 27 #[.slice A0 n0 c0, .slice A2 N2 c2, .slice A3 N3 c3, .slice A4 N4 c4] ∧ Blk w2 (b1 + 1) 31 #[.int .i64 f1, .int .i64 f2] ∧ Below B wr w2) := by
        obtain ⟨xs, hx⟩ := HTX.out
        rw [HBB.out] at hx
        have hl := HLB.out
        rw [HBB.out] at hl
        exact ⟨HA.out.below hb2, ⟨xs, own_below hx hb2⟩, own_below hl hb2, hblA, hblF, by rw [← HBB.out]; exact hb02⟩
      clear HA HTX HLB HB1 HS1 hb2 hblA hblF hb02 hbw2 hw2 HJ
      go_wp2_with fail
      refine HRJ.out.mono ?_
      rintro e w3 ⟨y1, y2, y3, y4, rfl, hob, hb⟩
      rw [HJJ.out] at hob ⊢
      dsimp only at hob ⊢
      obtain ⟨b2, hb2⟩ : ∃ b2, w3.heap.size = b2 := ⟨_, rfl⟩
      obtain ⟨E1, d1, e1, _⟩ := hob.tx.form
      obtain ⟨E2, d2, e2, _⟩ := hob.dt.form
      obtain ⟨E3, d3, e3, _, _⟩ := hob.lb.form
      obtain ⟨E4, d4, e4, _, _⟩ := hob.rl.form
      obtain ⟨M1, hN1⟩ : ∃ n, Jo.tx.length = n := ⟨_, rfl⟩
      obtain ⟨M2, hN2⟩ : ∃ n, Jo.dt.length = n := ⟨_, rfl⟩
      obtain ⟨M3, hN3⟩ : ∃ n, Jo.lb.length = n := ⟨_, rfl⟩
      obtain ⟨M4, hN4⟩ : ∃ n, Jo.rl.length = n := ⟨_, rfl⟩
      rw [hN1] at e1
      rw [hN2] at e2
      rw [hN3] at e3
      rw [hN4] at e4
      clear hN1 hN2 hN3 hN4 HRJ
      subst e1
      subst e2
      subst e3
      subst e4
      have HA := Lib.hid hob
      have HB3 := Lib.hid hb
      have HS3 := Lib.hid hb2
      clear hob hb
      go_upto_region 8 with fail
      clear hb2
      obtain ⟨w4, hw4⟩ : ∃ w4, (w3.alloc (.cells #[.slice E1 M1 d1, .slice E2 M2 d2, .slice E3 M3 d3, .slice E4 M4 d4] 27)).alloc (.cells #[.int .i64 f1, .int .i64 f2] 31) = w4 := ⟨_, rfl⟩
      rw [hw4]
      have hb4 : Below w3.heap.size w3 w4 := by rw [← hw4]; exact ((Below.refl _ _).alloc (Nat.le_refl _) _).alloc (by simp) _
      have hblE : Blk w4 b2 27 #[.slice E1 M1 d1, .slice E2 M2 d2, .slice E3 M3 d3, .slice E4 M4 d4] := by rw [← hw4, ← HS3.out]; exact (Blk.new w3 _ _).alloc _
      have hblG : Blk w4 (b2 + 1) 31 #[.int .i64 f1, .int .i64 f2] := by rw [← hw4, ← HS3.out]; exact blk_at (by simp) _ _
      have hb24 : Below w2.heap.size w2 w4 := HB3.out.trans (hb4.mono HB3.out.size)
      obtain ⟨xa, xt, xl, xA, xF, xb⟩ := HX2.out
      have HSM := Lib.hid (same_any _ _ _ _ _ _ _ _ Jo w4 (xa.below hb24) (HA.out.below hb4))
      have HC4 := Lib.hid (HC2.out.bel hb24)
      have HX4 : Hid ((∃ xs, w4.ownsRow B 5 1 (.slice A0 n0 k0) n0 xs) ∧ w4.ownsRow B 45 4 (.slice A3 N3 c3) m0 ys ∧ Blk w4 b1 27 #[.slice A0 n0 c0, .slice A2 N2 c2, .slice A3 N3 c3, .slice A4 N4 c4] ∧ Below B wr w4) := by
        obtain ⟨xs, hx⟩ := xt
        exact ⟨⟨xs, own_below hx hb24⟩, own_below xl hb24, xA.below hb24 xA.lt, xb.trans (hb24.mono (Nat.le_trans (by rw [HBB.out]; exact Nat.le_refl _) xb.size))⟩
      have a0 : w4.cell? ⟨b1, 0, none⟩ = some (.slice A0 n0 c0) := by rw [HX4.out.2.2.1.cell]; rfl
      have a1 : w4.cell? ⟨b1, 1, none⟩ = some (.slice A2 N2 c2) := by rw [HX4.out.2.2.1.cell]; rfl
      have a2 : w4.cell? ⟨b1, 2, none⟩ = some (.slice A3 N3 c3) := by rw [HX4.out.2.2.1.cell]; rfl
      have a3 : w4.cell? ⟨b1, 3, none⟩ = some (.slice A4 N4 c4) := by rw [HX4.out.2.2.1.cell]; rfl
      have g0 : w4.cell? ⟨b1 + 1, 0, none⟩ = some (.int .i64 f1) := by rw [(xF.below hb24 xF.lt).cell]; rfl
      have g1 : w4.cell? ⟨b1 + 1, 1, none⟩ = some (.int .i64 f2) := by rw [(xF.below hb24 xF.lt).cell]; rfl
      have q0 : w4.cell? ⟨b2, 0, none⟩ = some (.slice E1 M1 d1) := by rw [hblE.cell]; rfl
      have q1' : w4.cell? ⟨b2, 1, none⟩ = some (.slice E2 M2 d2) := by rw [hblE.cell]; rfl
      have q2' : w4.cell? ⟨b2, 2, none⟩ = some (.slice E3 M3 d3) := by rw [hblE.cell]; rfl
      have q3 : w4.cell? ⟨b2, 3, none⟩ = some (.slice E4 M4 d4) := by rw [hblE.cell]; rfl
      have h0 : w4.cell? ⟨b2 + 1, 0, none⟩ = some (.int .i64 f1) := by rw [hblG.cell]; rfl
      have h1 : w4.cell? ⟨b2 + 1, 1, none⟩ = some (.int .i64 f2) := by rw [hblG.cell]; rfl
      have hgd := guardF
      have hneq := HNEQ.out f1 f2 w4
      clear xa xt xl xA xF xb hb24 hblE hblG hb4 HA HB3 HS3 HC2 HX2 hw4
      go_wp2_with fail
      refine HSM.out.mono ?_
      rintro e w5 ⟨rfl, hb5⟩
      clear a0 a1 a2 a3 g0 g1 q0 q1' q2' q3 h0 h1 hgd hneq HSM HNEQ
      have hA5 := HX4.out.2.2.1.below hb5 HX4.out.2.2.1.lt
      have a0 : w5.cell? ⟨b1, 0, none⟩ = some (.slice A0 n0 c0) := by rw [hA5.cell]; rfl
      have a1 : w5.cell? ⟨b1, 1, none⟩ = some (.slice A2 N2 c2) := by rw [hA5.cell]; rfl
      have a2 : w5.cell? ⟨b1, 2, none⟩ = some (.slice A3 N3 c3) := by rw [hA5.cell]; rfl
      have a3 : w5.cell? ⟨b1, 3, none⟩ = some (.slice A4 N4 c4) := by rw [hA5.cell]; rfl
      have hB4 : B ≤ w4.heap.size := Nat.le_trans (by rw [HBB.out]; exact Nat.le_refl _) HX4.out.2.2.2.size
      have HSP : Hid (Calls Tryd.prog 8 #[.agg #[.slice A0 n0 c0, .slice A2 N2 c2, .slice A3 N3 c3, .slice A4 N4 c4]] w5 fun e w' => e = .returned (.tuple #[]) ∧ Below B w5 w') := by
        obtain ⟨xs, hx⟩ := HX4.out.1
        exact spoil_clip A0 c0 k0 _ _ _ B n0 m0 xs ys w5 (own_below hx hb5) (own_below HX4.out.2.1 hb5) (Nat.le_trans hB4 hb5.size)
      have HB5 : Hid (Below B wr w5) := HX4.out.2.2.2.trans (hb5.mono hB4)
      clear hb5 hA5 hB4 HX4 HC4
      go_wp2_with fail
      refine HSP.out.mono ?_
      rintro e w6 ⟨rfl, hb6⟩
      have hbw6 : Below wr.heap.size wr w6 := by rw [HBB.out]; exact HB5.out.trans hb6
      have HC6 := Lib.hid (HOC.out.bel hbw6)
      have HB6 : Hid (Below w.heap.size w w6) := by rw [HP.out]; exact HC6.out.below
      clear a0 a1 a2 a3 hb6 hbw6 HSP HB5 HOC HBB
      go_wp2_with fail
      generalize hwr : wr = wz at *
      clear hwr
      go_loopw [9] (fun iv W => ∃ j : Nat, j ≤ k ∧ iv = .int .i64 j ∧ Hid (Below w6.heap.size w6 W)) (fun iv _ => k - (intOf iv).toNat)
      case atStart => exact ⟨0, Nat.zero_le _, rfl, Below.refl _ _⟩
      case round =>
        obtain ⟨j, hj, rfl, HW⟩ := hrel
        by_cases hlt : j < k
        · as_aux_lemma =>
          have hjl : j < os.length := by rw [HN.out]; exact hlt
          have HO1 := HO.out
          rw [← HN.out] at HO1
          obtain ⟨g, off, rfl, hc⟩ := HO1.at_ (by omega)
          obtain ⟨v1, v2, v3, v4, x0, x1, x2, x3, hob⟩ := hc j hjl
          have hC6 := HC6.out
          rw [HN.out] at hC6
          obtain ⟨g', u1, u2, u3, u4, rfl, y0, y1, y2, y3, hob'⟩ := hC6.cells hlt
          have hbw : ∀ {a : Addr} {v : Value}, w6.cell? a = some v → wr.cell? a = some v := fun h => (HW.out.cell (cell_lt h)).trans h
          have hbw0 : ∀ {a : Addr} {v : Value}, w.cell? a = some v → wr.cell? a = some v := fun h => hbw ((HB6.out.cell (cell_lt h)).trans h)
          replace x0 := hbw0 x0
          replace x1 := hbw0 x1
          replace x2 := hbw0 x2
          replace x3 := hbw0 x3
          replace y0 := hbw y0
          replace y1 := hbw y1
          replace y2 := hbw y2
          replace y3 := hbw y3
          have HL : Hid (g < wr.heap.size ∧ g' < wr.heap.size) := ⟨cell_lt x0, cell_lt y0⟩
          have hbww : Below w.heap.size w wr := HB6.out.trans (HW.out.mono HB6.out.size)
          obtain ⟨o, hoo⟩ : ∃ o, os.getD j default = o := ⟨_, rfl⟩
          rw [hoo] at hob hob'
          have HSM := Lib.hid (fun (W : World) (hb : Below wr.heap.size wr W) => same_any u1 u2 u3 u4 v1 v2 v3 v4 o W ((hob'.below HW.out).below hb) ((hob.below hbww).below hb))
          clear hc hbw hbw0 hob hob' hoo HO1 hC6 hbww
          have e3 : (j : Int) < (k : Int) := by omega
          have e5 : (0 : Int) ≤ (j : Int) := by omega
          have e6 : IntKind.i64.wrap ((j : Int) + 1) = ((j + 1 : Nat) : Int) := by rw [IntWalk.i64_in _ (by omega)]; omega
          go_wp2_with fail
          go_region_held3 (fun W => W.cell? ⟨g', j * 4, none⟩ = some u1 ∧ W.cell? ⟨g', j * 4 + 1, none⟩ = some u2 ∧ W.cell? ⟨g', j * 4 + 2, none⟩ = some u3 ∧ W.cell? ⟨g', j * 4 + 3, none⟩ = some u4 ∧ W.cell? ⟨g, off + j * 4, none⟩ = some v1 ∧ W.cell? ⟨g, off + j * 4 + 1, none⟩ = some v2 ∧ W.cell? ⟨g, off + j * 4 + 2, none⟩ = some v3 ∧ W.cell? ⟨g, off + j * 4 + 3, none⟩ = some v4) (first | go_keep | exact ⟨t0, t1, t2, t3, t4, t5, t6, t7⟩)
            (first
              | (go_at_call 7; refine (HSM.out _ (Below.refl _ _).drew).mono ?_; rintro e w7 ⟨rfl, hb7⟩
                 have t0 : w7.cell? ⟨g', j * 4, none⟩ = some u1 := (hb7.cell (p := ⟨g', j * 4, none⟩) HL.out.2).trans y0
                 have t1 : w7.cell? ⟨g', j * 4 + 1, none⟩ = some u2 := (hb7.cell (p := ⟨g', j * 4 + 1, none⟩) HL.out.2).trans y1
                 have t2 : w7.cell? ⟨g', j * 4 + 2, none⟩ = some u3 := (hb7.cell (p := ⟨g', j * 4 + 2, none⟩) HL.out.2).trans y2
                 have t3 : w7.cell? ⟨g', j * 4 + 3, none⟩ = some u4 := (hb7.cell (p := ⟨g', j * 4 + 3, none⟩) HL.out.2).trans y3
                 have t4 : w7.cell? ⟨g, off + j * 4, none⟩ = some v1 := (hb7.cell (p := ⟨g, off + j * 4, none⟩) HL.out.1).trans x0
                 have t5 : w7.cell? ⟨g, off + j * 4 + 1, none⟩ = some v2 := (hb7.cell (p := ⟨g, off + j * 4 + 1, none⟩) HL.out.1).trans x1
                 have t6 : w7.cell? ⟨g, off + j * 4 + 2, none⟩ = some v3 := (hb7.cell (p := ⟨g, off + j * 4 + 2, none⟩) HL.out.1).trans x2
                 have t7 : w7.cell? ⟨g, off + j * 4 + 3, none⟩ = some v4 := (hb7.cell (p := ⟨g, off + j * 4 + 3, none⟩) HL.out.1).trans x3
                 have HB7 := Lib.hid hb7
                 clear hb7))
          have HW7 : Hid (Below w6.heap.size w6 w7) := HW.out.trans ((Below.refl _ _).drew.trans (HB7.out) |>.mono HW.out.size)
          go_wp2_with fail
          go_roundw
          case rel => exact ⟨j + 1, by omega, by go_num, HW7.out⟩
          case measure => simp [intOf]; omega
        · have HF : Hid (Below w.heap.size w wr) := HB6.out.trans (HW.out.mono HB6.out.size)
          go_wp2_with fail
          go_ret
          exact ⟨rfl, by have h := HF.out; rwa [HP.out] at h⟩
end Go.Proofs.YtlgdfacaeahcaaaDoor
