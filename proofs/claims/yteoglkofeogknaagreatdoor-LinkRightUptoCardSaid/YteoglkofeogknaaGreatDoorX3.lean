/- Walk: link.start. Conditions: what the theorem states. -/
import Derived.Test.YteoglkofeogknaaGreatDoorX2
import Derived.Test.YteoglkofeogknaaGreatDoorN2
import Derived.Test.YteoglkofeogknaaGreatDoorLQ
set_option linter.unusedVariables false
set_option linter.unusedSimpArgs false
namespace Go.Proofs.YteoglkofeogknaaGreatDoor
open Go.RowKit
/-- What start answers. -/
def StPost (ex : List Rng) (os : List Ob) (w : World) (e : Ending) (w' : World) : Prop := ∃ pv, e = .returned (.tuple #[pv, .agg #[.int .i64 (stF ex os).1, .int .i64 (stF ex os).2]]) ∧ Below w.heap.size w w' ∧ ((stF ex os).2 = 0 → ∃ k z1 z2 z3 z4 vR bN bP n m, pv = .pointer (some ⟨k, 0, none⟩) ∧ LK w' k z1 z2 z3 z4 vR bN bP ∧ ObAt w' z1 z2 z3 z4 (jres os).1 ∧ OwnG w' w.heap.size vR (layR (jres os).1 ex) ∧ MapV w' bN n (nameF (nameL (jres os).1 (layR (jres os).1 ex) ++ nameR (layR (jres os).1 ex))) ∧ MapV w' bP m (placeF (jres os).1.lb))
theorem RowOf.off {W W' : World} {p t : Nat} {cs : Array Value} {v : Value} {n : Nat} {xs : List Value} (h : RowOf W v n xs) (hb : Blk W p t cs) (hk : Keeps (fun i => i = p) W W') (hx : n = 0 ∨ ∃ (j : Nat) (u : Value), xs[j]? = some u ∧ ∀ i : Nat, cs[i]? ≠ some u) : RowOf W' v n xs := by
  obtain ⟨A, cap, h1, h2, h3, h4⟩ := h
  refine ⟨A, cap, h1, h2, h3, fun hn => ?_⟩
  obtain ⟨g, off, e, hg, hc⟩ := h4 hn
  have hne : ¬ g = p := by
    rintro rfl
    rcases hx with hx | ⟨j, u, hj, hu⟩
    · omega
    · have h := hc j u hj
      rw [hb.cell] at h
      exact hu _ h
  exact ⟨g, off, e, Nat.lt_of_lt_of_le hg hk.size, fun j u hj => (hk.cell (p := ⟨g, off + j, none⟩) hg hne).trans (hc j u hj)⟩
theorem ObAt.off {W W' : World} {p : Nat} {v1 v2 v3 v4 : Value} {o : Ob} (h : ObAt W v1 v2 v3 v4 o) (hb : Blk W p 34 #[.int .i64 0, .int .i64 0]) (hk : Keeps (fun i => i = p) W W') : ObAt W' v1 v2 v3 v4 o := by
  have hu : ∀ u : Value, u ≠ .int .i64 0 → ∀ i : Nat, (#[.int .i64 0, .int .i64 0] : Array Value)[i]? ≠ some u := fun u hu i => by
    match i with
    | 0 => intro e; injection e with e; exact hu e.symm
    | 1 => intro e; injection e with e; exact hu e.symm
    | i + 2 => intro e; cases e
  refine ⟨RowOf.off h.tx hb hk ?_, RowOf.off h.dt hb hk ?_, RowOf.off h.lb hb hk ?_, RowOf.off h.rl hb hk ?_⟩
  · cases h : o.tx with
    | nil => exact Or.inl rfl
    | cons x xs => exact Or.inr ⟨0, _, rfl, hu _ (by unfold byv; intro e; injection e with e; cases e)⟩
  · cases h : o.dt with
    | nil => exact Or.inl rfl
    | cons x xs => exact Or.inr ⟨0, _, rfl, hu _ (by unfold byv; intro e; injection e with e; cases e)⟩
  · cases h : o.lb with
    | nil => exact Or.inl rfl
    | cons x xs => exact Or.inr ⟨0, .string x.nm, rfl, hu _ (by intro e; cases e)⟩
  · cases h : o.rl with
    | nil => exact Or.inl rfl
    | cons x xs => exact Or.inr ⟨4, .string x.nm, rfl, hu _ (by intro e; cases e)⟩
theorem own_lower {W : World} {B B' size : Nat} {e : TypeId} {v : Value} {n : Nat} {xs : List Value} (h : W.ownsRow B e size v n xs) (hB : B' ≤ B) : W.ownsRow B' e size v n xs := by
  obtain ⟨h1, h2⟩ := h
  refine ⟨h1, ?_⟩
  rcases h2 with h2 | ⟨g, cap, cur, hv, hb, r⟩
  · exact Or.inl h2
  · exact Or.inr ⟨g, cap, cur, hv, Nat.le_trans hB hb, r⟩
theorem own_ge {W : World} {B size : Nat} {e : TypeId} {v : Value} {n : Nat} {xs : List Value} (h : W.ownsRow B e size v n xs) {g : Nat} (hg : v.ownBlock = some g) : B ≤ g := by
  obtain ⟨h1, h2⟩ := h
  rcases h2 with h2 | ⟨g', cap, cur, hv, hb, r⟩
  · rw [h2.1] at hg; cases hg
  · rw [hv] at hg
    have : g' = g := by simpa [Value.ownBlock] using hg
    omega
/-- What lies in memory while start looks. -/
structure SA (w w1 W : World) (p b1 bN n : Nat) (z1 z2 z3 z4 : Value) (f : ByteArray → Option Value) : Prop where
  below : Below p w W
  low : Below b1 w1 W
  flt : Blk W p 34 #[.int .i64 0, .int .i64 0]
  obj : Blk W b1 41 #[z1, z2, z3, z4]
  lk : LK W (bN + 1 + 1) z1 z2 z3 z4 (.slice none 0 0) bN (bN + 1)
  mN : MapV W bN 0 (fun _ => none)
  mP : MapV W (bN + 1) n f
  sz : bN + 3 ≤ W.heap.size
  ps : p < b1 ∧ b1 < bN ∧ w.heap.size = p
section
variable {w w1 W W' : World} {p b1 bN n m : Nat} {z1 z2 z3 z4 : Value} {f g : ByteArray → Option Value}
theorem SA.bel (h : SA w w1 W p b1 bN n z1 z2 z3 z4 f) (hb : Below W.heap.size W W') : SA w w1 W' p b1 bN n z1 z2 z3 z4 f :=
  ⟨h.below.trans (hb.mono (by have := h.sz; have := h.ps; omega)), h.low.trans (hb.mono (by have := h.sz; have := h.ps; omega)), h.flt.below hb h.flt.lt, h.obj.below hb h.obj.lt, Blk.below h.lk hb (Blk.lt h.lk), h.mN.below hb, h.mP.below hb, Nat.le_trans h.sz hb.size, h.ps⟩
theorem SA.map (h : SA w w1 W p b1 bN n z1 z2 z3 z4 f) (hg : W.grownBy W' (some (bN + 1))) (hm : MapV W' (bN + 1) m g) : SA w w1 W' p b1 bN m z1 z2 z3 z4 g := by
  have hs := h.sz
  obtain ⟨q1, q2, q3⟩ := h.ps
  exact ⟨h.below.grown hg (by omega) (fun j hj => by injection hj with hj; omega), h.low.grown hg (by omega) (fun j hj => by injection hj with hj; omega), h.flt.grown hg (fun e => by injection e with e; omega), h.obj.grown hg (fun e => by injection e with e; omega), Blk.grown h.lk hg (fun e => by injection e with e; omega), h.mN.kept hg (fun e => by injection e with e; omega), hm, Nat.le_trans h.sz hg.size, h.ps⟩
/-- A block that lies behind is turned. -/
theorem SA.oth (h : SA w w1 W p b1 bN n z1 z2 z3 z4 f) {s : Nat} (hg : W.grownBy W' (some s)) (hs : bN + 3 ≤ s) : SA w w1 W' p b1 bN n z1 z2 z3 z4 f := by
  have hz := h.sz
  obtain ⟨q1, q2, q3⟩ := h.ps
  exact ⟨h.below.grown hg (by omega) (fun j hj => by injection hj with hj; omega), h.low.grown hg (by omega) (fun j hj => by injection hj with hj; omega), h.flt.grown hg (fun e => by injection e with e; omega), h.obj.grown hg (fun e => by injection e with e; omega), Blk.grown h.lk hg (fun e => by injection e with e; omega), h.mN.kept hg (fun e => by injection e with e; omega), h.mP.kept hg (fun e => by injection e with e; omega), Nat.le_trans h.sz hg.size, h.ps⟩
/-- .. and the names that are seen. -/
structure SB (w w1 W : World) (p b1 bN n s m : Nat) (z1 z2 z3 z4 : Value) (f g : ByteArray → Option Value) : Prop where
  sa : SA w w1 W p b1 bN n z1 z2 z3 z4 f
  seen : MapV W s m g
  ge : bN + 3 ≤ s
variable {s : Nat} {f' : ByteArray → Option Value}
theorem SB.bel (h : SB w w1 W p b1 bN n s m z1 z2 z3 z4 f g) (hb : Below W.heap.size W W') : SB w w1 W' p b1 bN n s m z1 z2 z3 z4 f g := ⟨h.sa.bel hb, h.seen.below hb, h.ge⟩
theorem SB.map {m' : Nat} (h : SB w w1 W p b1 bN n s m z1 z2 z3 z4 f g) (hg : W.grownBy W' (some s)) (hm : MapV W' s m' f') : SB w w1 W' p b1 bN n s m' z1 z2 z3 z4 f f' := ⟨h.sa.oth hg h.ge, hm, h.ge⟩
end
set_option maxRecDepth 100000 in
set_option maxHeartbeats 40000000 in
theorem start_any (vX v : Value) (ex : List Rng) (os : List Ob) (w : World) (hX : RSlice w vX ex) (h : OsAt w v os) (ho : OpsAt w) (h0 : 0 < w.heap.size) (hnm : ∀ o ∈ os, NmOK o) (hN : os.length ≤ 1073741824) (hB : ∀ k, k ≤ os.length → SzOK (joinO (os.take k))) (hxl : ex.length ≤ 4194304) :
    Calls Tryz.prog 15 #[vX, v] w (StPost ex os w) := by
  obtain ⟨p, hp⟩ : ∃ p, w.heap.size = p := ⟨_, rfl⟩
  have HP := Lib.hid hp
  have HX := Lib.hid hX
  obtain ⟨A, cap, rfl, q1, q2⟩ := h.form
  obtain ⟨AX, cX, rfl, x1, x2, _, _⟩ := hX
  obtain ⟨W0, hW0⟩ : ∃ W0, w.alloc (.cells #[.int .i64 0, .int .i64 0] 34) = W0 := ⟨_, rfl⟩
  have hb0 : Below w.heap.size w W0 := by rw [← hW0]; exact (Below.refl _ _).alloc (Nat.le_refl _) _
  have HF0 : Hid (Blk W0 p 34 #[.int .i64 0, .int .i64 0]) := by rw [← hW0, ← hp]; exact Blk.new w _ _
  have HJ := Lib.hid (join_any _ os W0 (h.below hb0) (ho.below h0 hb0) (Nat.lt_of_lt_of_le h0 hb0.size) hnm hN hB)
  have HB0 := Lib.hid hb0
  have HS0 : Hid (W0.heap.size = p + 1) := by show _ = _; rw [← hW0, ← hp]; simp
  unfold maxLen at q2
  have HNMS := Lib.hid hnm
  clear h ho h0 hnm hN hB hb0
  go_enter Tryz.func15, Tryz.ntmps15
  go_wp2_with fail
  try rw [hp]
  try rw [hW0]
  clear hW0 hp
  refine HJ.out.mono ?_
  rintro e w1 ⟨A1, n1, c1, k1, z2, z3, z4, rfl, hob, hb1, htx, m0, ys, hlb⟩
  obtain ⟨J, f1, f2, hJJ⟩ : ∃ J f1 f2, jres os = (J, f1, f2) := ⟨_, _, _, rfl⟩
  have HJJ := Lib.hid hJJ
  rw [hJJ] at hob ⊢
  dsimp only at hob ⊢
  obtain ⟨b1, hbs⟩ : ∃ b1, w1.heap.size = b1 := ⟨_, rfl⟩
  obtain ⟨A2, c2, e2, _⟩ := hob.dt.form
  obtain ⟨A3, c3, e3, m3, m3'⟩ := hob.lb.form
  obtain ⟨A4, c4, e4, _, _⟩ := hob.rl.form
  obtain ⟨N2, hN2⟩ : ∃ n, J.dt.length = n := ⟨_, rfl⟩
  obtain ⟨N3, hN3⟩ : ∃ n, J.lb.length = n := ⟨_, rfl⟩
  obtain ⟨N4, hN4⟩ : ∃ n, J.rl.length = n := ⟨_, rfl⟩
  have HN3 := Lib.hid hN3
  rw [hN2] at e2
  rw [hN3] at e3 m3
  rw [hN4] at e4
  unfold maxLen at m3'
  have HNM : Hid (f2 = 0 → ∀ x ∈ J.lb, x.nm.size ≤ maxLen) := Lib.hid fun hf => by
    have hj := HJJ.out
    rw [hf] at hj
    exact (jres_names hj HNMS.out).1
  clear hJJ hN2 hN3 hN4 htx hlb
  subst e2
  subst e3
  subst e4
  have HA := Lib.hid hob
  have HB1 := Lib.hid hb1
  have HS1 := Lib.hid hbs
  clear hob hb1
  go_upto_region 2 with fail
  clear hbs
  obtain ⟨w2, hw2⟩ : ∃ w2, (w1.alloc (.cells #[.slice A1 n1 c1, .slice A2 N2 c2, .slice A3 N3 c3, .slice A4 N4 c4] 41)).alloc (.cells #[.int .i64 f1, .int .i64 f2] 34) = w2 := ⟨_, rfl⟩
  rw [hw2]
  have hb2 : Below w1.heap.size w1 w2 := by rw [← hw2]; exact ((Below.refl _ _).alloc (Nat.le_refl _) _).alloc (by simp) _
  have HBA : Hid (Blk w2 b1 41 #[.slice A1 n1 c1, .slice A2 N2 c2, .slice A3 N3 c3, .slice A4 N4 c4]) := by rw [← hw2, ← HS1.out]; exact (Blk.new w1 _ _).alloc _
  have HBF : Hid (Blk w2 (b1 + 1) 34 #[.int .i64 f1, .int .i64 f2]) := by rw [← hw2, ← HS1.out]; exact blk_at (by simp) _ _
  have HS2 : Hid (w2.heap.size = b1 + 2) := by show _ = _; rw [← hw2, ← HS1.out]; simp
  have HB2 := Lib.hid hb2
  have HPF : Hid (Blk w2 p 34 #[.int .i64 0, .int .i64 0]) := (HF0.out.below HB1.out HF0.out.lt).below hb2 (Nat.lt_of_lt_of_le HF0.out.lt HB1.out.size)
  have c0 : w2.cell? ⟨b1 + 1, 0, none⟩ = some (.int .i64 f1) := by rw [HBF.out.cell]; rfl
  have c1' : w2.cell? ⟨b1 + 1, 1, none⟩ = some (.int .i64 f2) := by rw [HBF.out.cell]; rfl
  clear hw2 hb2 HJ
  by_cases hf : f2 = 0
  · subst hf
    replace HNM : Hid (∀ x ∈ J.lb, x.nm.size ≤ maxLen) := Lib.hid (HNM.out rfl)
    go_upto_region 4 with fail
    clear c0 c1'
    have a0 : w2.cell? ⟨b1, 0, none⟩ = some (.slice A1 n1 c1) := by rw [HBA.out.cell]; rfl
    have a1 : w2.cell? ⟨b1, 1, none⟩ = some (.slice A2 N2 c2) := by rw [HBA.out.cell]; rfl
    have a2 : w2.cell? ⟨b1, 2, none⟩ = some (.slice A3 N3 c3) := by rw [HBA.out.cell]; rfl
    have a3 : w2.cell? ⟨b1, 3, none⟩ = some (.slice A4 N4 c4) := by rw [HBA.out.cell]; rfl
    have hs2 := HS2.out
    have hmm := @run_makeMap Tryz.prog
    go_upto_region 5 with fail
    clear a0 a1 a2 a3 hmm
    obtain ⟨bN, hbN⟩ : ∃ bN, b1 + 2 = bN := ⟨_, rfl⟩
    rw [hbN] at hs2 ⊢
    obtain ⟨W3, hW3⟩ : ∃ W3, (((w2.alloc (.map #[] 0)).alloc (.map #[] 0)).alloc (.cells #[.slice A1 n1 c1, .slice A2 N2 c2, .slice A3 N3 c3, .slice A4 N4 c4, .slice none 0 0, .map (some bN), .map (some (bN + 1))] 65)) = W3 := ⟨_, rfl⟩
    have hSA : Hid (SA w w1 W3 p b1 bN 0 (.slice A1 n1 c1) (.slice A2 N2 c2) (.slice A3 N3 c3) (.slice A4 N4 c4) (placeF (J.lb.take 0))) := by
      have hbw2 : Below p w w2 := by rw [← HP.out]; exact HB0.out.trans ((HB1.out.trans (HB2.out.mono HB1.out.size)).mono HB0.out.size)
      have hpb : p < b1 := by have h := HB1.out.size; rw [HS0.out, HS1.out] at h; omega
      have hlow : Below b1 w1 w2 := by rw [← HS1.out]; exact HB2.out
      have hb3 : Below w2.heap.size w2 W3 := by rw [← hW3]; exact (((Below.refl _ _).alloc (Nat.le_refl _) _).alloc (by simp) _).alloc (by simp; omega) _
      have hm1 := MapV.new w2
      rw [hs2] at hm1
      have hm2 := MapV.new (w2.alloc (.map #[] 0))
      rw [show (w2.alloc (.map #[] 0)).heap.size = bN + 1 by simp [hs2]] at hm2
      refine ⟨hbw2.trans (hb3.mono (by omega)), hlow.trans (hb3.mono (by omega)), HPF.out.below hb3 (by omega), HBA.out.below hb3 (by omega), ?_, ?_, ?_, ?_, hpb, by omega, HP.out⟩
      · rw [← hW3]
        exact blk_at (by simp; omega) _ _
      · rw [← hW3]
        exact (hm1.alloc _).alloc _
      · rw [← hW3]
        exact hm2.alloc _
      · rw [← hW3]
        simp
        omega
    rw [hW3]
    have HBN := Lib.hid hbN
    clear hs2 hbN hW3
    have o2 : W3.cell? ⟨b1, 2, none⟩ = some (.slice A3 N3 c3) := by rw [hSA.out.obj.cell]; rfl
    go_upto_region 6 with fail
    clear o2
    go_loopw [35] (fun jv W => ∃ j : Nat, j ≤ N3 ∧ jv = .int .i64 j ∧ Hid (∃ n, n ≤ j ∧ SA w w1 W p b1 bN n (.slice A1 n1 c1) (.slice A2 N2 c2) (.slice A3 N3 c3) (.slice A4 N4 c4) (placeF (J.lb.take j)))) (fun jv _ => N3 - (intOf jv).toNat)
    case atStart => exact ⟨0, Nat.zero_le _, rfl, 0, Nat.le_refl _, hSA.out⟩
    case round =>
      clear hSA
      obtain ⟨j, hj, rfl, HL⟩ := hrel
      obtain ⟨n, hn, hly⟩ := HL.out
      by_cases hlt : j < N3
      · as_aux_lemma =>
        have hjl : j < J.lb.length := by rw [HN3.out]; exact hlt
        have hlow : Below w1.heap.size w1 wr := by rw [HS1.out]; exact hly.low
        obtain ⟨g3, off3, rfl, _, hc⟩ := (HA.out.below hlow).lb.at_ (by omega)
        obtain ⟨x, hx⟩ : ∃ x, J.lb.getD j default = x := ⟨_, rfl⟩
        have hcx := hc j hjl
        rw [hx] at hcx
        obtain ⟨x0, x1', x2', x3⟩ := hcx
        have hmem : x ∈ J.lb := by rw [← hx]; simp [List.getD, hjl]
        have hns := HNM.out x hmem
        have hnl : placeF (J.lb.take (j + 1)) = fun s' => if s' = x.nm then some x.val else placeF (J.lb.take j) s' := by
          have e : J.lb[j] = x := by rw [← hx]; simp [List.getD, hjl]
          rw [List.take_succ_eq_append_getElem hjl, e]
          funext s'
          exact putsF_snoc _ _ _ _ _
        obtain ⟨s, hs⟩ : ∃ s, wr.heap.size = s := ⟨_, rfl⟩
        have hb3 : Below wr.heap.size wr (wr.alloc (.cells #[.string x.nm, .int .i64 x.sec, .int .i64 x.at_, .bool x.gl] 68)) := (Below.refl _ _).alloc (Nat.le_refl _) _
        have HBS : Hid (Blk (wr.alloc (.cells #[.string x.nm, .int .i64 x.sec, .int .i64 x.at_, .bool x.gl] 68)) s 68 #[.string x.nm, .int .i64 x.sec, .int .i64 x.at_, .bool x.gl]) := by rw [← hs]; exact Blk.new wr _ _
        have HL3 := Lib.hid (hly.bel hb3)
        have hval : x.val = .agg #[.string x.nm, .int .i64 x.sec, .int .i64 x.at_, .bool x.gl] := rfl
        rw [hval] at hnl
        have HNL := Lib.hid hnl
        obtain ⟨nm, sec, at_, gl⟩ := x
        dsimp only at x0 x1' x2' x3 hns
        have HNL2 : Hid (placeF (J.lb.take (j + 1)) = fun s' => if s' = nm then some (.agg #[.string nm, .int .i64 sec, .int .i64 at_, .bool gl]) else placeF (J.lb.take j) s') := HNL.out
        have e3 : (j : Int) < (N3 : Int) := by omega
        have e5 : (0 : Int) ≤ (j : Int) := by omega
        have e6 : IntKind.i64.wrap ((j : Int) + 1) = ((j + 1 : Nat) : Int) := by rw [IntWalk.i64_in _ (by omega)]; omega
        clear hc hx hmem hnl hb3 hly HL hval HNL
        go_upto_region 8 with fail
        clear x0 x1' x2' x3
        obtain ⟨W4, hW4⟩ : ∃ W4, wr.alloc (.cells #[.string nm, .int .i64 sec, .int .i64 at_, .bool gl] 68) = W4 := ⟨_, rfl⟩
        dsimp only at HL3 HBS
        rw [hW4] at HL3 HBS ⊢
        clear hW4
        have hd : Below W4.heap.size W4 W4.drew := (Below.refl _ _).drew
        have HD := Lib.hid (HL3.out.bel hd)
        obtain ⟨w5, hup, hm5, hg5⟩ := HD.out.mP.put Tryz.underlying63 nm (.agg #[.string nm, .int .i64 sec, .int .i64 at_, .bool gl]) hns (by unfold maxLen; omega)
        have HL5 : Hid (SA w w1 w5 p b1 bN (n + 1) (.slice A1 n1 c1) (.slice A2 N2 c2) (.slice (some ⟨g3, off3, none⟩) N3 c3) (.slice A4 N4 c4) (placeF (J.lb.take (j + 1)))) :=
          HD.out.map hg5 (by rw [HNL2.out]; exact hm5)
        have hbs5 : Blk w5 s 68 #[.string nm, .int .i64 sec, .int .i64 at_, .bool gl] := (HBS.out.below hd HBS.out.lt).grown hg5 (fun e => by injection e with e; exact HL3.out.mP.ne_blk HBS.out e)
        have k6 : W4.drew.cell? ⟨bN + 1 + 1, 6, none⟩ = some (.map (some (bN + 1))) := by rw [Blk.cell HD.out.lk]; rfl
        have k6' : w5.cell? ⟨bN + 1 + 1, 6, none⟩ = some (.map (some (bN + 1))) := by rw [Blk.cell HL5.out.lk]; rfl
        have s0 : ∀ W : World, Blk W s 68 #[.string nm, .int .i64 sec, .int .i64 at_, .bool gl] → W.cell? ⟨s, 0, none⟩ = some (.string nm) ∧ W.cell? ⟨s, 1, none⟩ = some (.int .i64 sec) ∧ W.cell? ⟨s, 2, none⟩ = some (.int .i64 at_) ∧ W.cell? ⟨s, 3, none⟩ = some (.bool gl) := fun W h => ⟨by rw [h.cell]; rfl, by rw [h.cell]; rfl, by rw [h.cell]; rfl, by rw [h.cell]; rfl⟩
        have HC4 := Lib.hid (And.intro k6 (s0 _ (HBS.out.below hd HBS.out.lt)))
        have HC5 := Lib.hid (And.intro k6' (s0 _ hbs5))
        clear hm5 hg5 hbs5 hd HD HL3 HBS k6 k6' s0
        refine wp_region_held_drew (S := (fun W => W.cell? ⟨bN + 1 + 1, 6, none⟩ = some (.map (some (bN + 1))) ∧ W.cell? ⟨s, 0, none⟩ = some (.string nm) ∧ W.cell? ⟨s, 1, none⟩ = some (.int .i64 sec) ∧ W.cell? ⟨s, 2, none⟩ = some (.int .i64 at_) ∧ W.cell? ⟨s, 3, none⟩ = some (.bool gl))) (by kernel_rfl) ?_ (fun hHeld => ?_)
        · exact HC4.out
        refine FU 8 rfl ?_
        iterate 7 ((first | (refine TN 8 ?_ rfl ?_ ?_; rotate_left 1; focus (intro w h; (try dsimp only at h); first | (go_simp; done) | (go_simp; with_reducible rfl))) | refine TM 8 rfl ?_); (try simp only [AP, Nat.reduceAdd, Nat.reduceSub]))
        refine wpAnyH_ready (rs := [7]) (by kernel_rfl) (by simp) ?_
        refine AllReadyH.cons rfl (fun K hK => ?_) AllReadyH.nil
        rw [if_pos (by rfl)]
        go_simp
        refine hK.out _ _ HC5.out (fun hHeld => ?_)
        clear hK K
        try simp only [AP]
        refine wpAnyH_done (by kernel_rfl) ?_ _
        clear hHeld
        go_wp2_with fail
        go_roundw
        case rel => exact ⟨j + 1, by omega, by go_num, n + 1, by omega, HL5.out⟩
        case measure => simp [intOf]; omega
      · have hjN : j = N3 := by omega
        subst hjN
        have HNJ := Lib.hid hn
        rw [List.take_of_length_le (l := J.lb) (by rw [HN3.out]; exact Nat.le_refl _)] at hly
        obtain ⟨s, hs⟩ : ∃ s, wr.heap.size = s := ⟨_, rfl⟩
        have hb3 : Below wr.heap.size wr (wr.alloc (.map #[] 0)) := (Below.refl _ _).alloc (Nat.le_refl _) _
        have hsa := hly.bel hb3
        have hge : bN + 3 ≤ s := by rw [← hs]; exact hly.sz
        have hm0 := MapV.new wr
        rw [hs] at hm0
        obtain ⟨wa, ua, ma, ga⟩ := hm0.put Tryz.underlying62 ⟨#[116, 101, 120, 116]⟩ (.int .i64 1) (by decide) (by decide)
        obtain ⟨wb, ub, mb, gb⟩ := ma.put Tryz.underlying62 ⟨#[100, 97, 116, 97]⟩ (.int .i64 1) (by decide) (by decide)
        have HSB : Hid (SB w w1 wb p b1 bN n s 2 (.slice A1 n1 c1) (.slice A2 N2 c2) (.slice A3 j c3) (.slice A4 N4 c4) (placeF J.lb) (seenF (ex.take 0))) := by
          refine ⟨(hsa.oth ga hge).oth gb hge, mb.congr (fun s' => ?_), hge⟩
          have h1 := putsF_snoc (α := ByteArray) id (fun _ => Value.int .i64 1) [textS] dataS s'
          have h2 := putsF_snoc (α := ByteArray) id (fun _ => Value.int .i64 1) [] textS s'
          show _ = putsF id _ ([textS] ++ [dataS]) s'
          rw [h1]
          show _ = if s' = dataS then some (Value.int .i64 1) else putsF id (fun _ => Value.int .i64 1) ([] ++ [textS]) s'
          rw [h2]
          rfl
        have hmm := @run_makeMap Tryz.prog
        clear hly HL hb3 hsa hm0 ma ga mb gb hn hlt hj
        go_upto_region 11 with fail
        generalize wr = wz at *
        obtain ⟨NX, hNX⟩ : ∃ n, ex.length = n := ⟨_, rfl⟩
        have HNX := Lib.hid hNX
        rw [hNX] at hxl x1 HX ⊢
        clear hNX hs ua ub hmm
        unfold maxLen at x2
        go_wp2_with fail
        go_loopw [51] (fun iv W => ∃ i : Nat, i ≤ NX ∧ iv = .int .i64 i ∧ Hid ((List.range i).any (fun i => exAt J ex i != 0) = false) ∧ Hid (∃ m, m ≤ i + 2 ∧ SB w w1 W p b1 bN n s m (.slice A1 n1 c1) (.slice A2 N2 c2) (.slice A3 j c3) (.slice A4 N4 c4) (placeF J.lb) (seenF (ex.take i)))) (fun iv _ => NX - (intOf iv).toNat)
        case atStart => exact ⟨0, Nat.zero_le _, rfl, rfl, 2, by omega, HSB.out⟩
        case round =>
          clear HSB
          obtain ⟨i, hi, rfl, HE, HL⟩ := hrel
          obtain ⟨m, hm, hsb⟩ := HL.out
          by_cases hlt : i < NX
          · as_aux_lemma =>
            have hil : i < ex.length := by rw [HNX.out]; exact hlt
            obtain ⟨A', cap', eA, _, _, hnms, hrow⟩ := HX.out
            injection eA with eA1 eA2 eA3
            obtain ⟨g, off, eg, hg, hc⟩ := hrow (by intro e; rw [e] at hil; simp at hil)
            subst eA1
            clear eA2 eA3
            subst eg
            obtain ⟨x0, x1', x2', x3, x4⟩ := hc.five hil
            have hbw : ∀ {a : Addr} {v : Value}, w.cell? a = some v → wr.cell? a = some v := fun h => (hsb.sa.below.cell (by have := cell_lt h; rw [HP.out] at this; exact this)).trans h
            replace x0 := hbw x0
            replace x1' := hbw x1'
            replace x2' := hbw x2'
            replace x3 := hbw x3
            replace x4 := hbw x4
            have hns := hnms _ (List.getElem_mem hil)
            have hat : exAt J ex i = exBad J (ex.take i) ex[i] := by unfold exAt; simp [List.getD, hil]
            obtain ⟨r, hr⟩ : ∃ r, ex[i] = r := ⟨_, rfl⟩
            rw [hr] at x0 x1' x2' x3 x4 hns hat
            have HAT := Lib.hid hat
            have HR := Lib.hid hr
            obtain ⟨s2, hs2⟩ : ∃ s2, wr.heap.size = s2 := ⟨_, rfl⟩
            have hb3 : Below wr.heap.size wr (wr.alloc (.cells #[.string r.nm, .int .i64 r.fr, .int .i64 r.sz, .bool r.wr, .bool r.ex] 48)) := (Below.refl _ _).alloc (Nat.le_refl _) _
            have HBS : Hid (Blk (wr.alloc (.cells #[.string r.nm, .int .i64 r.fr, .int .i64 r.sz, .bool r.wr, .bool r.ex] 48)) s2 48 #[.string r.nm, .int .i64 r.fr, .int .i64 r.sz, .bool r.wr, .bool r.ex]) := by rw [← hs2]; exact Blk.new wr _ _
            have HL3 := Lib.hid (hsb.bel hb3)
            have e3 : (i : Int) < (NX : Int) := by omega
            have e5 : (0 : Int) ≤ (i : Int) := by omega
            have e6 : IntKind.i64.wrap ((i : Int) + 1) = ((i + 1 : Nat) : Int) := by rw [IntWalk.i64_in _ (by omega)]; omega
            clear hrow hnms hc hbw hr hb3 hsb HL hat
            go_upto_region 14 with fail
            clear x0 x1' x2' x3 x4
            obtain ⟨W4, hW4⟩ : ∃ W4, wr.alloc (.cells #[.string r.nm, .int .i64 r.fr, .int .i64 r.sz, .bool r.wr, .bool r.ex] 48) = W4 := ⟨_, rfl⟩
            rw [hW4] at HL3 HBS ⊢
            clear hW4
            have b0 : W4.cell? ⟨s2, 0, none⟩ = some (.string r.nm) := by rw [HBS.out.cell]; rfl
            have b1' : W4.cell? ⟨s2, 1, none⟩ = some (.int .i64 r.fr) := by rw [HBS.out.cell]; rfl
            have b2' : W4.cell? ⟨s2, 2, none⟩ = some (.int .i64 r.sz) := by rw [HBS.out.cell]; rfl
            by_cases hsh : r.fr ≠ 0 ∨ r.sz < 0 ∨ 1048576 < r.sz ∨ nameB r.nm = false
            · have HST : Hid (stF ex os = ((i : Int), 1)) := stF_at HJJ.out hil HE.out (by rw [HAT.out]; unfold exBad; rw [if_pos hsh]) (by decide)
              rcases (show r.fr ≠ 0 ∨ (r.fr = 0 ∧ r.sz < 0) ∨ (r.fr = 0 ∧ ¬ r.sz < 0 ∧ 1048576 < r.sz) ∨ (r.fr = 0 ∧ ¬ r.sz < 0 ∧ ¬ 1048576 < r.sz ∧ nameB r.nm = false) by
                by_cases q1 : r.fr = 0
                · by_cases q2 : r.sz < 0
                  · exact Or.inr (Or.inl ⟨q1, q2⟩)
                  · by_cases q3 : 1048576 < r.sz
                    · exact Or.inr (Or.inr (Or.inl ⟨q1, q2, q3⟩))
                    · refine Or.inr (Or.inr (Or.inr ⟨q1, q2, q3, ?_⟩))
                      rcases hsh with h | h | h | h
                      · exact absurd q1 h
                      · exact absurd h q2
                      · exact absurd h q3
                      · exact h
                · exact Or.inl q1) with q1 | ⟨q1, q2⟩ | ⟨q1, q2, q3⟩ | ⟨q1, q2, q3, q4⟩
              · have q1' : (r.fr != 0) = true := by simpa using q1
                have p0 : W4.cell? ⟨p, 0, none⟩ = some (.int .i64 0) := by rw [HL3.out.sa.flt.cell]; rfl
                have p1 : W4.cell? ⟨p, 1, none⟩ = some (.int .i64 0) := by rw [HL3.out.sa.flt.cell]; rfl
                have g0 := HL3.out.sa.flt.frozen 0
                have g1 := HL3.out.sa.flt.frozen 1
                have HF := Lib.hid (fault_out HL3.out.sa.flt (keeps_of_below (fun _ => False) (by rw [HP.out]; exact HL3.out.sa.below)) (by rw [HP.out]; exact Nat.le_refl _) (.int .i64 i) (.int .i64 1))
                go_wp2_with fail
                obtain ⟨W6, hW6, h1, h2⟩ := HF.out
                rw [← hW6]
                have y0 := h1.cell 0
                have y1 := h1.cell 1
                refine bodyPost_ret (v := .tuple #[.pointer none, .agg #[.int .i64 i, .int .i64 1]]) (by simp [results, Tryz.results15, y0, y1, go_sem]) rfl ?_
                exact ⟨_, by rw [HST.out], h2.below, fun h => by rw [HST.out] at h; exact absurd h (by show ¬ (1 : Int) = 0; decide)⟩
              · have q1' : (r.fr != 0) = false := by simpa using q1
                have p0 : W4.cell? ⟨p, 0, none⟩ = some (.int .i64 0) := by rw [HL3.out.sa.flt.cell]; rfl
                have p1 : W4.cell? ⟨p, 1, none⟩ = some (.int .i64 0) := by rw [HL3.out.sa.flt.cell]; rfl
                have g0 := HL3.out.sa.flt.frozen 0
                have g1 := HL3.out.sa.flt.frozen 1
                have HF := Lib.hid (fault_out HL3.out.sa.flt (keeps_of_below (fun _ => False) (by rw [HP.out]; exact HL3.out.sa.below)) (by rw [HP.out]; exact Nat.le_refl _) (.int .i64 i) (.int .i64 1))
                go_wp2_with fail
                obtain ⟨W6, hW6, h1, h2⟩ := HF.out
                rw [← hW6]
                have y0 := h1.cell 0
                have y1 := h1.cell 1
                refine bodyPost_ret (v := .tuple #[.pointer none, .agg #[.int .i64 i, .int .i64 1]]) (by simp [results, Tryz.results15, y0, y1, go_sem]) rfl ?_
                exact ⟨_, by rw [HST.out], h2.below, fun h => by rw [HST.out] at h; exact absurd h (by show ¬ (1 : Int) = 0; decide)⟩
              · have q1' : (r.fr != 0) = false := by simpa using q1
                have p0 : W4.cell? ⟨p, 0, none⟩ = some (.int .i64 0) := by rw [HL3.out.sa.flt.cell]; rfl
                have p1 : W4.cell? ⟨p, 1, none⟩ = some (.int .i64 0) := by rw [HL3.out.sa.flt.cell]; rfl
                have g0 := HL3.out.sa.flt.frozen 0
                have g1 := HL3.out.sa.flt.frozen 1
                have HF := Lib.hid (fault_out HL3.out.sa.flt (keeps_of_below (fun _ => False) (by rw [HP.out]; exact HL3.out.sa.below)) (by rw [HP.out]; exact Nat.le_refl _) (.int .i64 i) (.int .i64 1))
                go_wp2_with fail
                obtain ⟨W6, hW6, h1, h2⟩ := HF.out
                rw [← hW6]
                have y0 := h1.cell 0
                have y1 := h1.cell 1
                refine bodyPost_ret (v := .tuple #[.pointer none, .agg #[.int .i64 i, .int .i64 1]]) (by simp [results, Tryz.results15, y0, y1, go_sem]) rfl ?_
                exact ⟨_, by rw [HST.out], h2.below, fun h => by rw [HST.out] at h; exact absurd h (by show ¬ (1 : Int) = 0; decide)⟩
              · have q1' : (r.fr != 0) = false := by simpa using q1
                go_wp2_with fail
                refine (lname_any r.nm W4 hns).mono ?_
                rintro e w5 ⟨rfl, hb5⟩
                have HL5 := Lib.hid (HL3.out.bel hb5)
                rw [q4]
                clear hb5
                have p0 : w5.cell? ⟨p, 0, none⟩ = some (.int .i64 0) := by rw [HL5.out.sa.flt.cell]; rfl
                have p1 : w5.cell? ⟨p, 1, none⟩ = some (.int .i64 0) := by rw [HL5.out.sa.flt.cell]; rfl
                have g0 := HL5.out.sa.flt.frozen 0
                have g1 := HL5.out.sa.flt.frozen 1
                have HF := Lib.hid (fault_out HL5.out.sa.flt (keeps_of_below (fun _ => False) (by rw [HP.out]; exact HL5.out.sa.below)) (by rw [HP.out]; exact Nat.le_refl _) (.int .i64 i) (.int .i64 1))
                go_wp2_with fail
                obtain ⟨W6, hW6, h1, h2⟩ := HF.out
                rw [← hW6]
                have y0 := h1.cell 0
                have y1 := h1.cell 1
                refine bodyPost_ret (v := .tuple #[.pointer none, .agg #[.int .i64 i, .int .i64 1]]) (by simp [results, Tryz.results15, y0, y1, go_sem]) rfl ?_
                exact ⟨_, by rw [HST.out], h2.below, fun h => by rw [HST.out] at h; exact absurd h (by show ¬ (1 : Int) = 0; decide)⟩
            · obtain ⟨q1, q2, q3, q4⟩ : r.fr = 0 ∧ ¬ r.sz < 0 ∧ ¬ 1048576 < r.sz ∧ nameB r.nm = true := by
                refine ⟨?_, fun h => hsh (Or.inr (Or.inl h)), fun h => hsh (Or.inr (Or.inr (Or.inl h))), ?_⟩
                · by_cases h : r.fr = 0
                  · exact h
                  · exact absurd (Or.inl h) hsh
                · cases h : nameB r.nm
                  · exact absurd (Or.inr (Or.inr (Or.inr h))) hsh
                  · rfl
              have q1' : (r.fr != 0) = false := by simpa using q1
              clear hsh
              go_wp2_with fail
              refine (lname_any r.nm W4 hns).mono ?_
              rintro e w5 ⟨rfl, hb5⟩
              have HL5 := Lib.hid (HL3.out.bel hb5)
              have HB5 := Lib.hid (HBS.out.below hb5 HBS.out.lt)
              rw [q4]
              clear hb5 HL3 HBS b0 b1' b2'
              have b0 : w5.cell? ⟨s2, 0, none⟩ = some (.string r.nm) := by rw [HB5.out.cell]; rfl
              go_upto_region 16 with fail
              have hd : Below w5.heap.size w5 w5.drew := (Below.refl _ _).drew
              have HD := Lib.hid (HL5.out.bel hd)
              have HB6 := Lib.hid (HB5.out.below hd HB5.out.lt)
              have hlk := HD.out.sa.mP.look2 (z := .agg #[.string ⟨#[]⟩, .int .i64 0, .int .i64 0, .bool false]) Tryz.underlying63 (by simp [go_sem]) r.nm hns
              have k6 : w5.drew.cell? ⟨bN + 1 + 1, 6, none⟩ = some (.map (some (bN + 1))) := by rw [Blk.cell HD.out.sa.lk]; rfl
              have s0 : w5.drew.cell? ⟨s2, 0, none⟩ = some (.string r.nm) := by rw [HB6.out.cell]; rfl
              obtain ⟨pa, pb, pc, pd, hV⟩ : ∃ a b c d, (placeF J.lb r.nm).getD (.agg #[.string ⟨#[]⟩, .int .i64 0, .int .i64 0, .bool false]) = .agg #[.string a, .int .i64 b, .int .i64 c, .bool d] := by
                cases hc : placeF J.lb r.nm with
                | none => exact ⟨_, _, _, _, rfl⟩
                | some v => obtain ⟨x, _, _, hx⟩ := putsF_val _ _ _ _ _ hc; rw [hx]; exact ⟨_, _, _, _, rfl⟩
              rw [hV] at hlk
              obtain ⟨W7, hW7⟩ : ∃ W7, (w5.alloc (.cells #[.string ⟨#[]⟩, .int .i64 0, .int .i64 0, .bool false] 68)).drew = W7 := ⟨_, rfl⟩
              have hb7 : Below w5.heap.size w5 W7 := by rw [← hW7]; exact ((Below.refl _ _).alloc (Nat.le_refl _) _).drew
              have HL7 := Lib.hid (HL5.out.bel hb7)
              have HB7 := Lib.hid (HB5.out.below hb7 HB5.out.lt)
              have hbz : Blk W7 w5.heap.size 68 #[.string ⟨#[]⟩, .int .i64 0, .int .i64 0, .bool false] := by rw [← hW7]; exact (Blk.new w5 _ _).drew
              have t0 : W7.cell? ⟨w5.heap.size, 0, none⟩ = some (.string ⟨#[]⟩) := by rw [hbz.cell]; rfl
              have t1 : W7.cell? ⟨w5.heap.size, 1, none⟩ = some (.int .i64 0) := by rw [hbz.cell]; rfl
              have t2 : W7.cell? ⟨w5.heap.size, 2, none⟩ = some (.int .i64 0) := by rw [hbz.cell]; rfl
              have t3 : W7.cell? ⟨w5.heap.size, 3, none⟩ = some (.bool false) := by rw [hbz.cell]; rfl
              have fz0 := hbz.frozen 0
              have fz1 := hbz.frozen 1
              have fz2 := hbz.frozen 2
              have fz3 := hbz.frozen 3
              obtain ⟨W8, hW8⟩ : ∃ W8, (((W7.setCell ⟨w5.heap.size, 0, none⟩ (.string pa)).setCell ⟨w5.heap.size, 1, none⟩ (.int .i64 pb)).setCell ⟨w5.heap.size, 2, none⟩ (.int .i64 pc)).setCell ⟨w5.heap.size, 3, none⟩ (.bool pd) = W8 := ⟨_, rfl⟩
              have hb8 : Below w5.heap.size w5 W8 := by
                rw [← hW8]
                exact Below.setCell (Below.setCell (Below.setCell (Below.setCell hb7 (Nat.le_refl _) _) (Nat.le_refl _) _) (Nat.le_refl _) _) (Nat.le_refl _) _
              have HL8 := Lib.hid (HL5.out.bel hb8)
              have HB8 := Lib.hid (HB5.out.below hb8 HB5.out.lt)
              have hlk8 := HL8.out.sa.mP.look2 (z := .agg #[.string ⟨#[]⟩, .int .i64 0, .int .i64 0, .bool false]) Tryz.underlying63 (by simp [go_sem]) r.nm hns
              rw [hV] at hlk8
              have k8 : W8.cell? ⟨bN + 1 + 1, 6, none⟩ = some (.map (some (bN + 1))) := by rw [Blk.cell HL8.out.sa.lk]; rfl
              have s8 : W8.cell? ⟨s2, 0, none⟩ = some (.string r.nm) := by rw [HB8.out.cell]; rfl
              have HC8 := Lib.hid (And.intro k8 (And.intro s8 hlk8))
              have HW8 := Lib.hid hW8
              clear k8 s8 hlk8 hW8 hb8 hbz
              have hlk7 := HL7.out.sa.mP.look2 (z := .agg #[.string ⟨#[]⟩, .int .i64 0, .int .i64 0, .bool false]) Tryz.underlying63 (by simp [go_sem]) r.nm hns
              rw [hV] at hlk7
              have k7 : W7.cell? ⟨bN + 1 + 1, 6, none⟩ = some (.map (some (bN + 1))) := by rw [Blk.cell HL7.out.sa.lk]; rfl
              have s7 : W7.cell? ⟨s2, 0, none⟩ = some (.string r.nm) := by rw [HB7.out.cell]; rfl
              have HC7 := Lib.hid (And.intro k7 (And.intro s7 hlk7))
              have HC := Lib.hid (And.intro k6 (And.intro s0 hlk))
              have HW7 := Lib.hid hW7
              clear k6 s0 b0 hlk k7 s7 hlk7 hV hW7
              refine wp_region_held_drew (S := (fun W => W.cell? ⟨bN + 1 + 1, 6, none⟩ = some (.map (some (bN + 1))) ∧ W.cell? ⟨s2, 0, none⟩ = some (.string r.nm) ∧ (Instr.lookup 63 (.map (some (bN + 1))) (.string r.nm) true).run Tryz.prog W = .ok (.tuple #[.agg #[.string pa, .int .i64 pb, .int .i64 pc, .bool pd], .bool (placeF J.lb r.nm).isSome]) W)) (by kernel_rfl) ?_ (fun hHeld => ?_)
              · exact HC.out
              refine FU 13 rfl ?_
              iterate 10 ((first | (refine TN 13 ?_ rfl ?_ ?_; rotate_left 1; focus (intro w h; (try dsimp only at h); first | (go_simp; done) | (go_simp; with_reducible rfl))) | refine TM 13 rfl ?_); (try simp only [AP, Nat.reduceAdd, Nat.reduceSub]))
              refine wpAnyH_ready (rs := [10]) (by kernel_rfl) (by simp) ?_
              refine AllReadyH.cons rfl (fun K hK => ?_) AllReadyH.nil
              rw [if_pos (by rfl)]
              go_simp
              try rw [HW7.out]
              refine hK.out _ _ HC7.out (fun hHeld => ?_)
              clear hK K
              try simp only [AP]
              refine wpAnyH_ready (rs := [11]) (by kernel_rfl) (by simp) ?_
              refine AllReadyH.cons rfl (fun K hK => ?_) AllReadyH.nil
              rw [if_pos (by rfl)]
              go_simp
              try rw [HW8.out]
              refine hK.out _ _ HC8.out (fun hHeld => ?_)
              clear hK K
              try simp only [AP]
              ((refine TW 12 ?_ rfl ?_ ?_; rotate_left 1; focus (intro w h; (try dsimp only at h); first | (go_simp; done) | (go_simp; with_reducible rfl))); (try simp only [AP]))
              refine wpAnyH_done (by kernel_rfl) ?_ _
              clear hHeld t0 t1 t2 t3 fz0 fz1 fz2 fz3 HC7 HC HC8 HW7 HW8 HL7 HB7 HD HB6
              obtain ⟨d1, hd1⟩ : ∃ d, (placeF J.lb r.nm).isSome = d := ⟨_, rfl⟩
              rw [hd1]
              have HD1 := Lib.hid hd1
              clear hd1
              have hz31 : r.nm.size ≤ 31 := by
                unfold nameB at q4
                split at q4
                · simp at q4; omega
                · cases q4
              have hcat : ∀ W : World, (Op.stringOp .add r.nm ⟨#[46, 101, 110, 100]⟩).run Tryz.prog W = .ok (.string (endS r.nm)) W := fun W => run_string_add_sum W r.nm ⟨#[46, 101, 110, 100]⟩ (by have : ByteArray.size ⟨#[46, 101, 110, 100]⟩ = 4 := rfl; omega)
              have hns2 : (endS r.nm).size ≤ maxLen := by
                have : (endS r.nm).size = r.nm.size + 4 := by unfold endS; rw [ByteArray.size_append]; rfl
                unfold maxLen
                omega
              go_wp2_with fail
              go_upto_region 17 with fail
              have hd : Below W8.heap.size W8 W8.drew := (Below.refl _ _).drew
              have HD := Lib.hid (HL8.out.bel hd)
              have HB6 := Lib.hid (HB8.out.below hd HB8.out.lt)
              have hlk := HD.out.sa.mP.look2 (z := .agg #[.string ⟨#[]⟩, .int .i64 0, .int .i64 0, .bool false]) Tryz.underlying63 (by simp [go_sem]) (endS r.nm) hns2
              have k6 : W8.drew.cell? ⟨bN + 1 + 1, 6, none⟩ = some (.map (some (bN + 1))) := by rw [Blk.cell HD.out.sa.lk]; rfl
              have s0 : W8.drew.cell? ⟨s2, 0, none⟩ = some (.string r.nm) := by rw [HB6.out.cell]; rfl
              obtain ⟨pa, pb, pc, pd, hV⟩ : ∃ a b c d, (placeF J.lb (endS r.nm)).getD (.agg #[.string ⟨#[]⟩, .int .i64 0, .int .i64 0, .bool false]) = .agg #[.string a, .int .i64 b, .int .i64 c, .bool d] := by
                cases hc : placeF J.lb (endS r.nm) with
                | none => exact ⟨_, _, _, _, rfl⟩
                | some v => obtain ⟨x, _, _, hx⟩ := putsF_val _ _ _ _ _ hc; rw [hx]; exact ⟨_, _, _, _, rfl⟩
              rw [hV] at hlk
              obtain ⟨Y7, gW7⟩ : ∃ Y7, (W8.alloc (.cells #[.string ⟨#[]⟩, .int .i64 0, .int .i64 0, .bool false] 68)).drew = Y7 := ⟨_, rfl⟩
              have hb7 : Below W8.heap.size W8 Y7 := by rw [← gW7]; exact ((Below.refl _ _).alloc (Nat.le_refl _) _).drew
              have GL7 := Lib.hid (HL8.out.bel hb7)
              have GB7 := Lib.hid (HB8.out.below hb7 HB8.out.lt)
              have hbz : Blk Y7 W8.heap.size 68 #[.string ⟨#[]⟩, .int .i64 0, .int .i64 0, .bool false] := by rw [← gW7]; exact (Blk.new W8 _ _).drew
              have t0 : Y7.cell? ⟨W8.heap.size, 0, none⟩ = some (.string ⟨#[]⟩) := by rw [hbz.cell]; rfl
              have t1 : Y7.cell? ⟨W8.heap.size, 1, none⟩ = some (.int .i64 0) := by rw [hbz.cell]; rfl
              have t2 : Y7.cell? ⟨W8.heap.size, 2, none⟩ = some (.int .i64 0) := by rw [hbz.cell]; rfl
              have t3 : Y7.cell? ⟨W8.heap.size, 3, none⟩ = some (.bool false) := by rw [hbz.cell]; rfl
              have fz0 := hbz.frozen 0
              have fz1 := hbz.frozen 1
              have fz2 := hbz.frozen 2
              have fz3 := hbz.frozen 3
              obtain ⟨Y8, gW8⟩ : ∃ Y8, (((Y7.setCell ⟨W8.heap.size, 0, none⟩ (.string pa)).setCell ⟨W8.heap.size, 1, none⟩ (.int .i64 pb)).setCell ⟨W8.heap.size, 2, none⟩ (.int .i64 pc)).setCell ⟨W8.heap.size, 3, none⟩ (.bool pd) = Y8 := ⟨_, rfl⟩
              have hb8 : Below W8.heap.size W8 Y8 := by
                rw [← gW8]
                exact Below.setCell (Below.setCell (Below.setCell (Below.setCell hb7 (Nat.le_refl _) _) (Nat.le_refl _) _) (Nat.le_refl _) _) (Nat.le_refl _) _
              have GL8 := Lib.hid (HL8.out.bel hb8)
              have GB8 := Lib.hid (HB8.out.below hb8 HB8.out.lt)
              have hlk8 := GL8.out.sa.mP.look2 (z := .agg #[.string ⟨#[]⟩, .int .i64 0, .int .i64 0, .bool false]) Tryz.underlying63 (by simp [go_sem]) (endS r.nm) hns2
              rw [hV] at hlk8
              have k8 : Y8.cell? ⟨bN + 1 + 1, 6, none⟩ = some (.map (some (bN + 1))) := by rw [Blk.cell GL8.out.sa.lk]; rfl
              have s8 : Y8.cell? ⟨s2, 0, none⟩ = some (.string r.nm) := by rw [GB8.out.cell]; rfl
              have GC8 := Lib.hid (And.intro k8 (And.intro s8 hlk8))
              have GW8 := Lib.hid gW8
              clear k8 s8 hlk8 gW8 hb8 hbz
              have hlk7 := GL7.out.sa.mP.look2 (z := .agg #[.string ⟨#[]⟩, .int .i64 0, .int .i64 0, .bool false]) Tryz.underlying63 (by simp [go_sem]) (endS r.nm) hns2
              rw [hV] at hlk7
              have k7 : Y7.cell? ⟨bN + 1 + 1, 6, none⟩ = some (.map (some (bN + 1))) := by rw [Blk.cell GL7.out.sa.lk]; rfl
              have s7 : Y7.cell? ⟨s2, 0, none⟩ = some (.string r.nm) := by rw [GB7.out.cell]; rfl
              have GC7 := Lib.hid (And.intro k7 (And.intro s7 hlk7))
              have GC := Lib.hid (And.intro k6 (And.intro s0 hlk))
              have GW7 := Lib.hid gW7
              clear k6 s0 hlk k7 s7 hlk7 hV gW7
              refine wp_region_held_drew (S := (fun W => W.cell? ⟨bN + 1 + 1, 6, none⟩ = some (.map (some (bN + 1))) ∧ W.cell? ⟨s2, 0, none⟩ = some (.string r.nm) ∧ (Instr.lookup 63 (.map (some (bN + 1))) (.string (endS r.nm)) true).run Tryz.prog W = .ok (.tuple #[.agg #[.string pa, .int .i64 pb, .int .i64 pc, .bool pd], .bool (placeF J.lb (endS r.nm)).isSome]) W)) (by kernel_rfl) ?_ (fun hHeld => ?_)
              · exact GC.out
              refine FU 14 rfl ?_
              iterate 11 ((first | (refine TN 14 ?_ rfl ?_ ?_; rotate_left 1; focus (intro w h; (try dsimp only at h); first | (go_simp; done) | (go_simp; with_reducible rfl))) | refine TM 14 rfl ?_); (try simp only [AP, Nat.reduceAdd, Nat.reduceSub]))
              refine wpAnyH_ready (rs := [11]) (by kernel_rfl) (by simp) ?_
              refine AllReadyH.cons rfl (fun K hK => ?_) AllReadyH.nil
              rw [if_pos (by rfl)]
              go_simp
              try rw [GW7.out]
              refine hK.out _ _ GC7.out (fun hHeld => ?_)
              clear hK K
              try simp only [AP]
              refine wpAnyH_ready (rs := [12]) (by kernel_rfl) (by simp) ?_
              refine AllReadyH.cons rfl (fun K hK => ?_) AllReadyH.nil
              rw [if_pos (by rfl)]
              go_simp
              try rw [GW8.out]
              refine hK.out _ _ GC8.out (fun hHeld => ?_)
              clear hK K
              try simp only [AP]
              ((refine TW 13 ?_ rfl ?_ ?_; rotate_left 1; focus (intro w h; (try dsimp only at h); first | (go_simp; done) | (go_simp; with_reducible rfl))); (try simp only [AP]))
              refine wpAnyH_done (by kernel_rfl) ?_ _
              clear hHeld t0 t1 t2 t3 fz0 fz1 fz2 fz3 GC7 GC GC8 GW7 GW8 GL7 GB7 HD HB6
              obtain ⟨d2, hd2⟩ : ∃ d, (placeF J.lb (endS r.nm)).isSome = d := ⟨_, rfl⟩
              rw [hd2]
              have HD2 := Lib.hid hd2
              clear hd2
              obtain ⟨d3, hd3⟩ : ∃ d, seenB (ex.take i) r.nm = d := ⟨_, rfl⟩
              have hlk := GL8.out.seen.look (z := .int .i64 0) Tryz.underlying62 (by simp [go_sem]) r.nm hns
              rw [seenF_get, hd3] at hlk
              have HBAD : Hid (exAt J ex i = if (d1 || d2 || d3) = true then 6 else 0) := by show _ = _; rw [HAT.out, exBad_right q1 (by omega) (by omega) q4, HD1.out, HD2.out, hd3]
              clear hd3
              have s8 : Y8.cell? ⟨s2, 0, none⟩ = some (.string r.nm) := by rw [GB8.out.cell]; rfl
              by_cases hany : (d1 || d2 || d3) = true
              · have HST : Hid (stF ex os = ((i : Int), 6)) := stF_at HJJ.out hil HE.out (by rw [HBAD.out, if_pos hany]) (by decide)
                have p0 : Y8.cell? ⟨p, 0, none⟩ = some (.int .i64 0) := by rw [GL8.out.sa.flt.cell]; rfl
                have p1 : Y8.cell? ⟨p, 1, none⟩ = some (.int .i64 0) := by rw [GL8.out.sa.flt.cell]; rfl
                have g0 := GL8.out.sa.flt.frozen 0
                have g1 := GL8.out.sa.flt.frozen 1
                have HF := Lib.hid (fault_out GL8.out.sa.flt (keeps_of_below (fun _ => False) (by rw [HP.out]; exact GL8.out.sa.below)) (by rw [HP.out]; exact Nat.le_refl _) (.int .i64 i) (.int .i64 6))
                rcases (show d1 = true ∨ (d1 = false ∧ d2 = true) ∨ (d1 = false ∧ d2 = false ∧ d3 = true) by cases d1 <;> cases d2 <;> cases d3 <;> simp at hany ⊢) with h1 | ⟨h1, h2⟩ | ⟨h1, h2, h3⟩
                · subst h1
                  clear hlk s8 hany
                  go_wp2_with fail
                  obtain ⟨W6, hW6, h1, h2⟩ := HF.out
                  rw [← hW6]
                  have y0 := h1.cell 0
                  have y1 := h1.cell 1
                  refine bodyPost_ret (v := .tuple #[.pointer none, .agg #[.int .i64 i, .int .i64 6]]) (by simp [results, Tryz.results15, y0, y1, go_sem]) rfl ?_
                  exact ⟨_, by rw [HST.out], h2.below, fun h => by rw [HST.out] at h; exact absurd h (by show ¬ (6 : Int) = 0; decide)⟩
                · subst h1
                  subst h2
                  clear hlk s8 hany
                  go_wp2_with fail
                  obtain ⟨W6, hW6, h1, h2⟩ := HF.out
                  rw [← hW6]
                  have y0 := h1.cell 0
                  have y1 := h1.cell 1
                  refine bodyPost_ret (v := .tuple #[.pointer none, .agg #[.int .i64 i, .int .i64 6]]) (by simp [results, Tryz.results15, y0, y1, go_sem]) rfl ?_
                  exact ⟨_, by rw [HST.out], h2.below, fun h => by rw [HST.out] at h; exact absurd h (by show ¬ (6 : Int) = 0; decide)⟩
                · subst h1
                  subst h2
                  subst h3
                  clear hany
                  rw [if_pos rfl] at hlk
                  go_wp2_with fail
                  obtain ⟨W6, hW6, h1, h2⟩ := HF.out
                  rw [← hW6]
                  have y0 := h1.cell 0
                  have y1 := h1.cell 1
                  refine bodyPost_ret (v := .tuple #[.pointer none, .agg #[.int .i64 i, .int .i64 6]]) (by simp [results, Tryz.results15, y0, y1, go_sem]) rfl ?_
                  exact ⟨_, by rw [HST.out], h2.below, fun h => by rw [HST.out] at h; exact absurd h (by show ¬ (6 : Int) = 0; decide)⟩
              · obtain ⟨h1, h2, h3⟩ : d1 = false ∧ d2 = false ∧ d3 = false := by cases d1 <;> cases d2 <;> cases d3 <;> simp at hany ⊢
                subst h1
                subst h2
                subst h3
                rw [if_neg (by decide)] at hlk
                clear hany
                have hz : exAt J ex i = 0 := HBAD.out
                obtain ⟨w9, hup, hm9, hg9⟩ := GL8.out.seen.put Tryz.underlying62 r.nm (.int .i64 1) hns (by unfold maxLen; omega)
                have HL9 : Hid (SB w w1 w9 p b1 bN n s (m + 1) (.slice A1 n1 c1) (.slice A2 N2 c2) (.slice A3 j c3) (.slice A4 N4 c4) (placeF J.lb) (seenF (ex.take (i + 1)))) :=
                  Lib.hid (GL8.out.map hg9 (hm9.congr (fun s' => by rw [seenF_snoc hil, HR.out])))
                have HE2 : Hid ((List.range (i + 1)).any (fun i => exAt J ex i != 0) = false) := rng_miss HE.out (by rw [hz]; rfl)
                clear hz hm9 hg9
                go_wp2_with fail
                go_roundw
                case rel =>
                  exact ⟨i + 1, by omega, by go_num, HE2, m + 1, by omega, HL9.out⟩
                case measure => simp [intOf]; omega
          · have hiN : i = NX := by omega
            subst hiN
            clear hlt HL hm
            rw [List.take_of_length_le (l := ex) (by rw [HNX.out]; exact Nat.le_refl _)] at hsb
            have hE : (List.range ex.length).any (fun i => exAt J ex i != 0) = false := by rw [HNX.out]; exact HE.out
            have HST := Lib.hid (stF_end HJJ.out hE)
            have hsa := hsb.sa
            obtain ⟨t1, t2, t3, t4⟩ := jres_size HJJ.out
            obtain ⟨u1, u2, u3⟩ := hsa.ps
            have u4 := hsa.sz
            have HXw : RSlice w1 (.slice AX i cX) ex := HX.out.below (HB0.out.trans (HB1.out.mono HB0.out.size))
            have HLA := Lib.hid (lay_any (bN + 1 + 1) bN (bN + 1) _ _ _ _ _ J ex w1 wr hsa.lk HA.out HXw (by rw [HS1.out]; exact hsa.low) ⟨by rw [HS1.out]; omega, by rw [HS1.out]; omega, by rw [HS1.out]; omega⟩ hsa.mN ⟨t1, t2, t3⟩ (fun x hx => ⟨(jres_lb HJJ.out x hx).1, (jres_lb HJJ.out x hx).2.1, (jres_lb HJJ.out x hx).2.2.2, HNM.out x hx⟩) (ex_sizes hE) (by rw [HNX.out]; exact hxl))
            have HSB := Lib.hid hsb
            have HU := Lib.hid (And.intro u1 (And.intro u2 u4))
            clear t1 t2 t3 t4 u1 u2 u3 u4 hE hsa hsb HXw
            go_wp2_with fail
            refine HLA.out.mono ?_
            rintro e w9 ⟨rfl, hk9, hpost⟩
            have hflt : Blk w9 p 34 #[.int .i64 0, .int .i64 0] := HSB.out.sa.flt.keeps hk9 (by have := HU.out; omega)
            have HFL := Lib.hid hflt
            have hbw9 : Below w.heap.size w w9 := by
              rw [HP.out]
              exact HSB.out.sa.below.trans (hk9.low (fun i hi => by have := HU.out; omega) (by have := HU.out; omega))
            have p0 : w9.cell? ⟨p, 0, none⟩ = some (.int .i64 0) := by rw [hflt.cell]; rfl
            have p1 : w9.cell? ⟨p, 1, none⟩ = some (.int .i64 0) := by rw [hflt.cell]; rfl
            have g0 := hflt.frozen 0
            have g1 := hflt.frozen 1
            obtain ⟨cd, hcd⟩ : ∃ cd, layC J ex = cd := ⟨_, rfl⟩
            rw [hcd] at HST ⊢
            have HCD := Lib.hid hcd
            have HF := Lib.hid (fault_out hflt (keeps_of_below (fun _ => False) hbw9) (by rw [HP.out]; exact Nat.le_refl _) (.int .i64 0) (.int .i64 cd))
            have HK9 := Lib.hid hk9
            have HPO := Lib.hid hpost
            clear hflt hbw9 hk9 hpost hcd HLA
            go_wp2_with fail
            obtain ⟨W6, hW6, h1, h2⟩ := HF.out
            rw [← hW6]
            have y0 := h1.cell 0
            have y1 := h1.cell 1
            refine bodyPost_ret (v := .tuple #[.pointer (some ⟨bN + 1 + 1, 0, none⟩), .agg #[.int .i64 0, .int .i64 cd]]) (by simp [results, Tryz.results15, y0, y1, go_sem]) rfl ?_
            refine ⟨_, by rw [HST.out], h2.below, fun h => ?_⟩
            rw [HST.out] at h
            have hc0 : layBad J ex = false := by
              have h3 := HCD.out
              have h4 : cd = 0 := h
              rw [h4] at h3
              unfold layC at h3
              cases hlb : layBad J ex with
              | false => rfl
              | true => rw [hlb, if_pos rfl] at h3; exact absurd h3 (by decide)
            obtain ⟨vR, nn, ho, hl, hm⟩ := HPO.out hc0
            obtain ⟨u1, u2, u3⟩ := HU.out
            have hkp : Keeps (fun i => i = p) w9 W6 := by rw [hW6]; exact ((Keeps.refl (fun i => i = p) w9).setCell (p := ⟨p, 0, none⟩) (Or.inr rfl) _).setCell (p := ⟨p, 1, none⟩) (Or.inr rfl) _
            have hj : (jres os).1 = J := by rw [HJJ.out]
            have hb19 : Below w1.heap.size w1 w9 := by
              rw [HS1.out]
              exact HSB.out.sa.low.trans (HK9.out.low (fun i hi => by omega) (by omega))
            rw [hj]
            refine ⟨bN + 1 + 1, _, _, _, _, vR, bN, bN + 1, nn, n, rfl, Blk.keeps hl hkp (by omega), (HA.out.below hb19).off HFL.out hkp, ownsRow_keeps (own_lower ho (by rw [HP.out]; omega)) hkp (fun g hg e => ?_), hm.keeps hkp (by omega), (HSB.out.sa.mP.keeps HK9.out (by omega)).keeps hkp (by omega)⟩
            have := own_ge ho hg
            omega
  · have hf2 : (f2 != 0) = true := by simpa using hf
    have p0 : w2.cell? ⟨p, 0, none⟩ = some (.int .i64 0) := by rw [HPF.out.cell]; rfl
    have p1 : w2.cell? ⟨p, 1, none⟩ = some (.int .i64 0) := by rw [HPF.out.cell]; rfl
    have g0 := HPF.out.frozen 0
    have g1 := HPF.out.frozen 1
    go_upto_region 3 with fail
    have HJR : Hid (stF ex os = (f1, f2)) := by show _ = _; unfold stF; rw [HJJ.out]; simp [hf]
    have hbw : Below w.heap.size w w2 := HB0.out.trans ((HB1.out.trans (HB2.out.mono HB1.out.size)).mono HB0.out.size)
    have HF := Lib.hid (fault_out HPF.out (keeps_of_below (fun _ => False) hbw) (by rw [HP.out]; exact Nat.le_refl _) (.int .i64 f1) (.int .i64 f2))
    clear hbw
    go_region
    all_goals
      go_wp2_with fail
      obtain ⟨W3, hW3, h1, h2⟩ := HF.out
      rw [← hW3]
      have y0 : W3.drew.cell? ⟨p, 0, none⟩ = some (.int .i64 f1) := by have h := h1.cell 0; exact h
      have y1 : W3.drew.cell? ⟨p, 1, none⟩ = some (.int .i64 f2) := by have h := h1.cell 1; exact h
      refine bodyPost_ret (v := .tuple #[.pointer none, .agg #[.int .i64 f1, .int .i64 f2]]) (by simp [results, Tryz.results15, y0, y1, go_sem]) rfl ?_
      exact ⟨_, by rw [HJR.out], h2.below.drew, fun h => absurd (by rw [HJR.out] at h; exact h) hf⟩
end Go.Proofs.YteoglkofeogknaaGreatDoor
