/- Plain: what the functions say of the small one, by reckoning. No conditions. Walks: the law's works. Conditions: the tables. Plain: the law TwiceWarns. No conditions. -/
import Derived.Test.YtlmoblmkhicoeaaGreatDoorL2
set_option linter.unusedVariables false
set_option linter.unusedSimpArgs false
set_option maxRecDepth 100000
namespace Go.Proofs.YtlmoblmkhicoeaaGreatDoor
theorem fs_ok : fnB Fs = true := by decide +kernel
def lvS : List (List Nat) := [17 :: List.replicate 63 0, 28 :: List.replicate 63 0, 6 :: List.replicate 63 0]
def lvS1 : List (List Nat) := [17 :: List.replicate 63 0, 24 :: List.replicate 63 0, 6 :: List.replicate 63 0]
theorem fs_r1 : round Fs (ins0 3) = (lvS1, true) := by decide +kernel
theorem fs_r2 : round Fs lvS1 = (lvS, true) := by decide +kernel
theorem fs_r3 : round Fs lvS = (lvS, false) := by decide +kernel
theorem fs_live : liveL Fs = lvS := by
  obtain ⟨f, hf⟩ : ∃ f, totAll (ins0 Fs.bl.length) + 1 = f + 1 + 1 + 1 := ⟨totAll (ins0 Fs.bl.length) - 2, by have : 3 ≤ totAll (ins0 Fs.bl.length) := by decide +kernel
                                                                                                              omega⟩
  unfold liveL
  rw [hf, show ins0 Fs.bl.length = ins0 3 from rfl, liveF, fs_r1]
  simp only [if_true]
  rw [liveF, fs_r2]
  simp only [if_true]
  rw [liveF, fs_r3]
  rfl
theorem fs_bits : bitsL 6 = [1, 2] := by
  rw [bitsL_pos (by decide), show Lib.ctz 64 6 = 1 by decide +kernel, show (6 &&& (6 - 1) : Nat) = 4 by decide, bitsL_pos (by decide), show Lib.ctz 64 4 = 2 by decide +kernel, show (4 &&& (4 - 1) : Nat) = 0 by decide, bitsL_zero]
theorem fs_nW : nW Fs = 1 := by decide +kernel
theorem fs_in2 : inL Fs 2 = [1, 2] := by
  have h1 : (rchL Fs).getD 2 false = true := by decide +kernel
  unfold inL
  rw [h1, if_pos rfl, fs_live, fs_nW, show lvS.getD 2 zeroW = 6 :: List.replicate 63 0 from rfl]
  show listW (6 :: List.replicate 63 0) (0 + 1) = _
  rw [listW_succ]
  show [] ++ memW 0 6 = _
  unfold memW
  rw [fs_bits]
  rfl
theorem fs_kept : keptF Fs 0 = [1, 2] := by
  unfold keptF
  rw [show (blk Fs 0).x.e.toNat = 2 by decide +kernel]
  have e : (liveIn Fs).getD 2 [] = inL Fs 2 := by
    unfold liveIn
    rw [show Fs.bl.length = 3 from rfl]
    rfl
  rw [e, fs_in2]
  decide +kernel
theorem fs_bt : btL Fs 0 = [false, true, false, false, false, true] := by decide +kernel
theorem fs_risk : riskF Fs 0 = [1] := by
  unfold riskF
  rw [fs_kept, fs_bt]
  decide +kernel
theorem fs_an : anL Fs = [⟨0, [1, 2], [1]⟩] := by
  unfold anL
  rw [show Fs.bl.length = 3 from rfl]
  have s0 : setF Fs 0 = true := by decide +kernel
  have s1 : setF Fs 1 = false := by decide +kernel
  have s2 : setF Fs 2 = false := by decide +kernel
  rw [anN, s2, if_neg (by decide), anN, s1, if_neg (by decide), anN, s0, if_pos rfl, fs_kept, fs_risk]
  rfl
theorem fs_warn0 : (warnL Fs).map (fun x => (x.b, x.o, x.r)) = [(1, 1, 4), (2, 0, 1)] := by decide +kernel
theorem fs_warn : warnL Fs = [⟨1, 1, 4⟩, ⟨2, 0, 1⟩] := by
  have h := fs_warn0
  match hw : warnL Fs, h with
  | [a, b], h =>
    simp only [List.map_cons, List.map_nil, List.cons.injEq, Prod.mk.injEq, and_true] at h
    obtain ⟨⟨a1, a2, a3⟩, b1, b2, b3⟩ := h
    cases a; cases b
    simp only at a1 a2 a3 b1 b2 b3
    subst a1 a2 a3 b1 b2 b3
    rfl
  | [], h => exact absurd h (by simp)
  | [a], h => exact absurd h (by simp)
  | a :: b :: c :: l, h => exact absurd h (by simp)
end Go.Proofs.YtlmoblmkhicoeaaGreatDoor
namespace Go.Proofs.YtlmoblmkhicoeaaGreatDoor
open Go.RowKit
theorem zip_flat2 {α β : Type} (f : α × β → List Value) (c : Nat) (hf : ∀ x, (f x).length = c) (l : List α) (vs : List β) (hl : vs.length = l.length) (i : Nat) (hi : i < l.length) (j : Nat) (hj : j < c) :
    ((l.zip vs).flatMap f)[i * c + j]? = (f (l[i], vs[i]'(by omega)))[j]? := by
  rw [flatMap_at f c hf (l.zip vs) i (by rw [List.length_zip]; omega) j hj, List.getElem_zip]
theorem OwnT.cells {W : World} {B : Nat} {v : Value} {l : List Tw} (h : OwnT W B v l) (hn : 0 < l.length) : ∃ g c, v = .slice (some ⟨g, 0, none⟩) l.length c ∧ l.length ≤ c ∧ c ≤ maxLen ∧ g < W.heap.size ∧ ∀ i (hi : i < l.length), ∃ kv rv, W.cell? ⟨g, i * 3, none⟩ = some (.int .i64 (l[i].b : Int)) ∧ W.cell? ⟨g, i * 3 + 1, none⟩ = some kv ∧ W.cell? ⟨g, i * 3 + 2, none⟩ = some rv ∧ OwnI W B kv l[i].kp ∧ OwnI W B rv l[i].ri := by
  obtain ⟨vs, h1, h2, h3⟩ := h
  obtain ⟨g, c, rfl⟩ := own_some h2 hn
  obtain ⟨p1, p2, p3, p4, p5, p6⟩ := own_parts h2
  refine ⟨g, c, rfl, p3, p4, p2, fun i hi => ⟨(vs[i]'(by omega)).1, (vs[i]'(by omega)).2, ?_, ?_, ?_, (h3 i hi (by omega)).1, (h3 i hi (by omega)).2⟩⟩
  · have := zip_flat2 twc 3 twc_len l vs h1 i hi 0 (by decide)
    exact p5 (i * 3) _ (by rw [Nat.add_zero] at this; rw [this]; rfl)
  · exact p5 (i * 3 + 1) _ (by rw [zip_flat2 twc 3 twc_len l vs h1 i hi 1 (by decide)]; rfl)
  · exact p5 (i * 3 + 2) _ (by rw [zip_flat2 twc 3 twc_len l vs h1 i hi 2 (by decide)]; rfl)
theorem OwnS.cells {W : World} {B : Nat} {v : Value} {l : List Sp} (h : OwnS W B v l) (hn : 0 < l.length) : ∃ g c, v = .slice (some ⟨g, 0, none⟩) l.length c ∧ l.length ≤ c ∧ c ≤ maxLen ∧ g < W.heap.size ∧ ∀ i (hi : i < l.length), W.cell? ⟨g, i * 3, none⟩ = some (.int .i64 (l[i].b : Int)) ∧ W.cell? ⟨g, i * 3 + 1, none⟩ = some (.int .i64 (l[i].o : Int)) ∧ W.cell? ⟨g, i * 3 + 2, none⟩ = some (.int .i64 l[i].r) := by
  obtain ⟨g, c, rfl⟩ := own_some h hn
  obtain ⟨p1, p2, p3, p4, p5, p6⟩ := own_parts h
  have hf := fun i (hi : i < l.length) j (hj : j < 3) => flatMap_at spc 3 (fun _ => rfl) l i hi j hj
  refine ⟨g, c, rfl, p3, p4, p2, fun i hi => ⟨?_, ?_, ?_⟩⟩
  · have := hf i hi 0 (by decide)
    exact p5 (i * 3) _ (by rw [Nat.add_zero] at this; rw [this]; rfl)
  · exact p5 (i * 3 + 1) _ (by rw [hf i hi 1 (by decide)]; rfl)
  · exact p5 (i * 3 + 2) _ (by rw [hf i hi 2 (by decide)]; rfl)
theorem fs_small : Small Fs := ⟨by decide, by decide, by decide +kernel, by decide +kernel⟩
theorem fs_in {W : World} {bv : Value} (h : BlsAt W bv Fs.bl) (hk : KeysAt W) : FnIn W Fs (.slice none 0 0) bv := ⟨⟨none, 0, rfl, Nat.le_refl _, by decide, fun h => absurd h (by decide)⟩, h, hk, fs_small⟩
set_option maxRecDepth 100000 in
set_option maxHeartbeats 8000000 in
theorem works_any (w : World) (hk : KeysAt w) (ht : TzAt w) :
    Calls Tryz.prog 5 #[] w fun e w' => e = .returned (.bool true) ∧ Below w.heap.size w w' := by
  have HS := Lib.hid (fun w => small_any w)
  have HK := Lib.hid (And.intro hk ht)
  clear hk ht
  go_enter Tryz.func5, Tryz.ntmps5
  go_wp2_with fail
  refine (HS.out _).mono ?_
  rintro e w1 ⟨⟨bv, rfl, hbl⟩, hb1⟩
  have HAN := Lib.hid (analyze_any Fs (.slice none 0 0) bv w1 (fs_in hbl (HK.out.1.below hb1)) (HK.out.2.below hb1))
  have H1 := Lib.hid hb1
  obtain ⟨Ab, cb, rfl, -, -⟩ := hbl.form
  unfold fnv Fs at HAN
  clear hbl hb1
  unfold fnv Fs
  go_wp2_with fail
  refine HAN.out.mono ?_
  rintro e w2 ⟨⟨hf, -⟩ | ⟨-, v, rfl, ho, -⟩, hb2⟩
  · exact absurd fs_ok (by have h9 : fnB Fs = false := hf; rw [h9]; decide)
  have ho' : OwnT w2 w1.heap.size v [⟨0, [1, 2], [1]⟩] := by have := fs_an; unfold Fs at this; rw [this] at ho; exact ho
  obtain ⟨g, c, rfl, q1, q2, q3, q4⟩ := ho'.cells (by decide)
  obtain ⟨kv, rv, c0, c1, c2, hkv, hrv⟩ := q4 0 (by decide)
  have hB2 := H1.out.trans (below_of_le hb2 H1.out.size)
  have H2 := Lib.hid (And.intro hB2 (And.intro (And.intro c0 (And.intro c1 c2)) (And.intro hkv hrv)))
  clear ho ho' q4 hb2 hB2 hkv hrv c0 c1 c2
  go_wp2_with fail
  refine (HS.out _).mono ?_
  rintro e w3 ⟨⟨bv2, rfl, hbl⟩, hb3⟩
  have hB3 := H2.out.1.trans (below_of_le hb3 H2.out.1.size)
  have HWA := Lib.hid (warn_any Fs (.slice none 0 0) bv2 w3 (fs_in hbl (HK.out.1.below hB3)) (HK.out.2.below hB3))
  obtain ⟨Ab2, cb2, rfl, -, -⟩ := hbl.form
  have H3 := Lib.hid (And.intro hb3 hB3)
  unfold fnv Fs at HWA
  clear hbl hb3 hB3
  unfold fnv Fs
  go_wp2_with fail
  refine HWA.out.mono ?_
  rintro e w4 ⟨⟨hf, -⟩ | ⟨-, v2, rfl, ho2⟩, hb4⟩
  · exact absurd fs_ok (by have h9 : fnB Fs = false := hf; rw [h9]; decide)
  have ho2' : OwnS w4 w3.heap.size v2 [⟨1, 1, 4⟩, ⟨2, 0, 1⟩] := by have := fs_warn; unfold Fs at this; rw [this] at ho2; exact ho2
  obtain ⟨g2, cc2, rfl, z1, z2, z3, z4⟩ := ho2'.cells (by decide)
  obtain ⟨s0, s1, s2⟩ := z4 0 (by decide)
  obtain ⟨s3, s4, s5⟩ := z4 1 (by decide)
  have hb24 : Below w2.heap.size w2 w4 := H3.out.1.trans (below_of_le hb4 H3.out.1.size)
  have HB4 := Lib.hid (H3.out.2.trans (below_of_le hb4 H3.out.2.size))
  have d0 := (hb24.cell (p := ⟨g, 0, none⟩) q3).trans H2.out.2.1.1
  have d1 := (hb24.cell (p := ⟨g, 1, none⟩) q3).trans H2.out.2.1.2.1
  have d2 := (hb24.cell (p := ⟨g, 2, none⟩) q3).trans H2.out.2.1.2.2
  obtain ⟨Ak, ck, rfl, -, -⟩ := H2.out.2.2.1.form
  obtain ⟨Ar, cr, rfl, -, -⟩ := H2.out.2.2.2.form
  have HKV := Lib.hid (fun (W : World) (hW : Below w4.heap.size w4 W) => And.intro (H2.out.2.2.1.below (hb24.trans (below_of_le hW hb24.size))).ints (H2.out.2.2.2.below (hb24.trans (below_of_le hW hb24.size))).ints)
  clear ho2 ho2' z4 hb4 hb24 q3
  go_wp2_with fail
  have hal := below1 w4 (.cells #[.int .i64 1, .int .i64 2] 3)
  refine (same_any [1, 2] [1, 2] (.slice Ak 2 ck) (.slice (some ⟨w4.heap.size, 0, none⟩) 2 2) _ (HKV.out _ hal).1 (ints_blk [1, 2] (Blk.new w4 3 _) rfl (by decide)) rfl (by decide)).mono ?_
  rintro e w5 ⟨rfl, hb5⟩
  have hb45 : Below w4.heap.size w4 w5 := hal.trans (below_of_le hb5 hal.size)
  have e2 := (hb45.cell (p := ⟨g, 2, none⟩) (cell_lt d2)).trans d2
  have hal2 := below1 w5 (.cells #[.int .i64 1] 3)
  have hb46 : Below w4.heap.size w4 (w5.alloc (.cells #[.int .i64 1] 3)) := hb45.trans (below_of_le hal2 hb45.size)
  have HS2 := Lib.hid (same_any [1] [1] (.slice Ar 1 cr) (.slice (some ⟨w5.heap.size, 0, none⟩) 1 1) _ (HKV.out _ hb46).2 (ints_blk [1] (Blk.new w5 3 _) rfl (by decide)) rfl (by decide))
  have HB46 := Lib.hid hb46
  clear hal hb5 hb45 hal2 hb46
  go_wp2_with fail
  refine HS2.out.mono ?_
  rintro e w6 ⟨rfl, hb6⟩
  have hb66 : Below w4.heap.size w4 w6 := HB46.out.trans (below_of_le hb6 HB46.out.size)
  have t0 := (hb66.cell (p := ⟨g2, 0, none⟩) (cell_lt s0)).trans s0
  have t1 := (hb66.cell (p := ⟨g2, 1, none⟩) (cell_lt s1)).trans s1
  have t2 := (hb66.cell (p := ⟨g2, 2, none⟩) (cell_lt s2)).trans s2
  have t3 := (hb66.cell (p := ⟨g2, 3, none⟩) (cell_lt s3)).trans s3
  have t4 := (hb66.cell (p := ⟨g2, 4, none⟩) (cell_lt s4)).trans s4
  have t5 := (hb66.cell (p := ⟨g2, 5, none⟩) (cell_lt s5)).trans s5
  have HF := Lib.hid (HB4.out.trans (below_of_le hb66 HB4.out.size))
  clear hb6 hb66 s0 s1 s2 s3 s4 s5 d0 d1 d2
  go_wp2_with fail
  go_ret
  exact ⟨rfl, HF.out⟩
end Go.Proofs.YtlmoblmkhicoeaaGreatDoor
namespace Go.Proofs.YtlmoblmkhicoeaaGreatDoor
/-- Whatever holds of the rows and is kept by each step holds at the end. -/
theorem unT_inv {F : Fn} {b : Nat} {s : List Bool} (Q : List (List Bool) → Prop) (hQ : ∀ ins (t : Int), Q ins → (1 ≤ t ∧ t < (F.bl.length : Int) ∧ (rchL F).getD t.toNat false = true) → Q (ins.set t.toNat (jnB (ins.getD t.toNat []) (tgtF F b s t) (ins.getD t.toNat []).length))) :
    ∀ (l : List Int) (st : List (List Bool) × Bool), Q st.1 → (∀ t ∈ l, 1 ≤ t ∧ t < (F.bl.length : Int) ∧ (rchL F).getD t.toNat false = true) → Q (unE F b s l st).1
  | [], st, h, _ => h
  | t :: l, st, h, hl => unT_inv Q hQ l (unT F b s st t) (hQ _ t h (hl t (List.mem_cons_self ..))) (fun x hx => hl x (List.mem_cons_of_mem _ hx))
theorem unL_inv {F : Fn} (hF : FnOk F) (Q : List (List Bool) → Prop) (h0 : Q (unI F))
    (hQ : ∀ (b : Nat) (ins0 ins : List (List Bool)) (t : Int), b < F.bl.length → (rchL F).getD b false = true → UnOk F ins0 → Q ins0 → UnOk F ins → Q ins → (1 ≤ t ∧ t < (F.bl.length : Int) ∧ (rchL F).getD t.toNat false = true) → Q (ins.set t.toNat (jnB (ins.getD t.toNat []) (tgtF F b (srcF F b (ins0.getD b [])) t) (ins.getD t.toNat []).length))) : Q (unL F) ∧ UnOk F (unL F) := by
  have hB : ∀ (u : Un) b, b < F.bl.length → UnOk F u.ins ∧ Q u.ins → UnOk F (unB F u b).ins ∧ Q (unB F u b).ins := by
    intro u b hb h
    unfold unB
    split
    · rename_i hr
      have := unT_inv (F := F) (b := b) (s := srcF F b (u.ins.getD b [])) (fun ins => UnOk F ins ∧ Q ins) (fun ins t h2 ht => ⟨h2.1.set_ _ ht.2.2 (by rw [jnB_len]; exact h2.1.r _ (by omega) ht.2.2), hQ b u.ins ins t hb hr h.1 h.2 h2.1 h2.2 ht⟩) ((edgL F).getD b []) (u.ins, u.mo) h (fun t ht => edgL_rch hF hb hr t ht)
      exact this
    · exact h
  have hP : ∀ (u : Un), UnOk F u.ins ∧ Q u.ins → ∀ k, k ≤ F.bl.length → UnOk F (unP F u k).ins ∧ Q (unP F u k).ins := by
    intro u h k
    induction k with
    | zero => intro _; exact h
    | succ k ih => intro hk; exact hB _ k (by omega) (ih (by omega))
  have hL : ∀ f (u : Un), UnOk F u.ins ∧ Q u.ins → UnOk F (unF F f u) ∧ Q (unF F f u) := by
    intro f
    induction f with
    | zero => intro u h; exact h
    | succ f ih =>
      intro u h
      rw [unF]
      split
      · exact ih _ (hP ⟨u.ins, u.dn, false⟩ h _ (Nat.le_refl _))
      · exact h
  have := hL (unM (un0 F) + 1) (un0 F) ⟨unI_ok hF, h0⟩
  exact ⟨this.2, this.1⟩
/-- The first block's row never turns. -/
theorem unL_first {F : Fn} (hF : FnOk F) : (unL F).getD 0 [] = (unI F).getD 0 [] := by
  refine (unL_inv hF (fun ins => ins.getD 0 [] = (unI F).getD 0 []) rfl ?_).1
  intro b ins0 ins t _ _ _ _ _ h ht
  rw [← h]
  simp only [List.getD_eq_getElem?_getD]
  rw [List.getElem?_set_ne (by omega)]
theorem unI_first {F : Fn} (hF : FnOk F) : (unI F).getD 0 [] = ini F.rs.toNat F.ps.toNat (F.rs.toNat - F.ps.toNat) := by
  have : 0 < (unZ F).length := by rw [unZ_len]; exact hF.b1
  unfold unI
  simp [this]
theorem ini_get (R P : Nat) : ∀ k, P + k ≤ R → ∀ r, (ini R P k).getD r false = (decide (P ≤ r) && decide (r < P + k))
  | 0, _, r => by
    have : ini R P 0 = List.replicate R false := rfl
    rw [this]
    simp only [List.getD_eq_getElem?_getD, List.getElem?_replicate]
    by_cases h : P ≤ r
    · have h2 : ¬ r < P + 0 := by omega
      simp [h2]; split <;> simp
    · simp [h]; split <;> simp
  | k + 1, h, r => by
    have ih := ini_get R P k (by omega) r
    have e : ini R P (k + 1) = (ini R P k).set (P + k) true := rfl
    rw [e]
    by_cases hr : P + k = r
    · subst hr
      have hl : P + k < (ini R P k).length := by rw [ini_len]; omega
      simp only [List.getD_eq_getElem?_getD, List.getElem?_set_self hl, Option.getD_some]
      simp
    · have e2 : ((ini R P k).set (P + k) true).getD r false = (ini R P k).getD r false := by
        simp only [List.getD_eq_getElem?_getD]
        rw [List.getElem?_set_ne hr]
      rw [e2, ih]
      congr 1
      by_cases h3 : r < P + k
      · simp [h3]; omega
      · simp [h3]; omega
theorem ixsN_ini (R P : Nat) (h : P ≤ R) : ∀ j, j ≤ R → (ixsN (ini R P (R - P)) j).length = j - P
  | 0, _ => by simp [ixsN]
  | j + 1, hj => by
    have ih := ixsN_ini R P h j (by omega)
    rw [ixsN, ini_get R P (R - P) (by omega)]
    by_cases hp : P ≤ j
    · have h2 : j < P + (R - P) := by omega
      simp only [hp, h2, decide_true, Bool.and_self, if_true, List.length_append, List.length_cons, List.length_nil, ih]
      omega
    · simp only [hp, decide_false, Bool.false_and, Bool.false_eq_true, if_false, ih]
      omega
/-- As many as are no Params. -/
theorem first_len {F : Fn} (hF : FnOk F) : (ixs ((unL F).getD 0 [])).length = F.rs.toNat - F.ps.toNat := by
  have h1 := hF.p0
  have h2 := hF.pr
  rw [unL_first hF, unI_first hF, ixs, ini_len]
  exact ixsN_ini _ _ (by omega) _ (Nat.le_refl _)
/-- May something unset come to a register? -/
def mvB (F : Fn) (r : Int) : Bool := F.bl.any (fun b => b.os.any (fun o => o.d == r && (o.k == 2 || o.k == 28)))
theorem behF_get (os : List Op) : ∀ (s : List Bool) (r : Nat), (behF os s).getD r false = true → s.getD r false = true ∨ ∃ o ∈ os, o.d = (r : Int) ∧ (o.k = 2 ∨ o.k = 28) := by
  induction os with
  | nil => intro s r h; exact Or.inl h
  | cons o os ih =>
    intro s r h
    have h' : (behF os (behS s o)).getD r false = true := h
    rcases ih _ r h' with h1 | ⟨o', ho', h2⟩
    · unfold behS at h1
      split at h1
      · rename_i hd
        simp only [List.getD_eq_getElem?_getD, List.getElem?_set] at h1
        split at h1
        · rename_i he
          split at h1
          · right
            refine ⟨o, List.mem_cons_self .., by omega, ?_⟩
            simp only [Option.getD_some, Bool.or_eq_true, Bool.and_eq_true, beq_iff_eq] at h1
            rcases h1 with h1 | h1
            · exact Or.inr h1
            · exact Or.inl h1.1
          · simp at h1
        · left; rw [List.getD_eq_getElem?_getD]; exact h1
      · exact Or.inl h1
    · exact Or.inr ⟨o', List.mem_cons_of_mem _ ho', h2⟩
theorem anN_nil {F : Fn} : ∀ k, anN F k = [] → ∀ b, b < k → setF F b = false
  | 0, _, b, hb => absurd hb (by omega)
  | k + 1, h, b, hb => by
    rw [anN] at h
    split at h
    · simp at h
    · rename_i hs
      rcases Nat.lt_or_ge b k with h1 | h1
      · exact anN_nil k h b h1
      · have : b = k := by omega
        subst this; simpa using hs
theorem jnB_get' {l m : List Bool} {r : Nat} (h : (jnB l m l.length).getD r false = true) : l.getD r false = true ∨ m.getD r false = true := by
  rw [jnB_get l m l.length r (Nat.le_refl _)] at h
  simp only [Bool.or_eq_true, Bool.and_eq_true] at h
  exact h.imp id (·.2)
/-- Without sets a parameter that may be unset was moved to. -/
theorem unL_moved {F : Fn} (hF : FnOk F) (hn : anL F = []) : ∀ b r : Nat, (r : Int) < F.ps → ((unL F).getD b []).getD r false = true → mvB F r = true := by
  have hset := anN_nil F.bl.length hn
  refine (unL_inv hF (fun ins => ∀ b r : Nat, (r : Int) < F.ps → (ins.getD b []).getD r false = true → mvB F r = true) ?_ ?_).1
  · intro b r hr h
    exfalso
    have h0 : (unI F).getD b [] = if b = 0 ∧ 0 < (unZ F).length then ini F.rs.toNat F.ps.toNat (F.rs.toNat - F.ps.toNat) else (unZ F).getD b [] := by
      unfold unI
      simp only [List.getD_eq_getElem?_getD, List.getElem?_set]
      by_cases hb : 0 = b
      · subst hb
        by_cases hl : 0 < (unZ F).length
        · simp [hl]
        · simp [hl]
      · have : ¬ (b = 0 ∧ 0 < (unZ F).length) := fun h => hb h.1.symm
        simp [hb, this]
    rw [h0] at h
    have hp0 := hF.p0
    have hpr := hF.pr
    split at h
    · rw [ini_get _ _ _ (by omega)] at h
      simp only [Bool.and_eq_true, decide_eq_true_eq] at h
      omega
    · rcases Nat.lt_or_ge b F.bl.length with hb | hb
      · have hl : b < (unZ F).length := by rw [unZ_len]; exact hb
        have e : (unZ F).getD b [] = (unZ F)[b] := by simp [hl]
        rw [e] at h
        simp only [unZ, List.getElem_map, List.getElem_range] at h
        split at h
        · simp only [List.getD_eq_getElem?_getD, List.getElem?_replicate] at h
          split at h <;> simp at h
        · simp at h
      · have e : (unZ F).getD b [] = [] := by
          have : (unZ F).length ≤ b := by rw [unZ_len]; exact hb
          simp [this]
        rw [e] at h; simp at h
  · intro b ins0 ins t hb hr hu0 h0 hu h ht c r hrp hc
    simp only [List.getD_eq_getElem?_getD, List.getElem?_set] at hc
    split at hc
    · rename_i htc
      split at hc
      · simp only [Option.getD_some] at hc
        have hc2 : (jnB (ins.getD t.toNat []) (tgtF F b (srcF F b (ins0.getD b [])) t) (ins.getD t.toNat []).length).getD r false = true := by
          simp only [List.getD_eq_getElem?_getD] at hc ⊢
          exact hc
        rcases jnB_get' hc2 with h1 | h1
        · exact h _ r hrp h1
        · have hs := hset b hb
          unfold setF at hs
          rw [hr, Bool.true_and] at hs
          have e1 : srcF F b (ins0.getD b []) = behF (blk F b).os (ins0.getD b []) := by
            unfold srcF; rw [hs]; simp
          have e2 : tgtF F b (srcF F b (ins0.getD b [])) t = srcF F b (ins0.getD b []) := by
            unfold tgtF; rw [hs]; simp
          rw [e2, e1] at h1
          rcases behF_get _ _ _ h1 with h2 | ⟨o, ho, h3, h4⟩
          · exact h0 _ r hrp h2
          · unfold mvB
            rw [List.any_eq_true]
            refine ⟨F.bl[b], List.getElem_mem hb, ?_⟩
            rw [List.any_eq_true]
            refine ⟨o, by rw [← blk_at_ hb]; exact ho, ?_⟩
            rcases h4 with h4 | h4 <;> simp [h3, h4]
      · simp at hc
    · have hc3 : (ins.getD c []).getD r false = true := by simpa [List.getD_eq_getElem?_getD] using hc
      exact h c r hrp hc3
end Go.Proofs.YtlmoblmkhicoeaaGreatDoor
