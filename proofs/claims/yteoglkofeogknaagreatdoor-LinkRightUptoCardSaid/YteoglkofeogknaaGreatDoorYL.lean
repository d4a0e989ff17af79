/- Walk: link.Link. Conditions: what the theorem states. -/
import Derived.Test.YteoglkofeogknaaGreatDoorYK
set_option linter.unusedVariables false
set_option linter.unusedSimpArgs false
namespace Go.Proofs.YteoglkofeogknaaGreatDoor
open Go.RowKit
set_option maxRecDepth 100000 in
set_option maxHeartbeats 40000000 in
theorem link_any (entry : ByteArray) (vX v : Value) (ex : List Rng) (os : List Ob) (w : World) (hX : RSlice w vX ex) (h : OsAt w v os) (ho : OpsAt w) (h0 : 0 < w.heap.size) (hnm : ∀ o ∈ os, NmOK o) (hN : os.length ≤ 1073741824) (hB : ∀ k, k ≤ os.length → SzOK (joinO (os.take k))) (hxl : ex.length ≤ 4194304) (hen : entry.size ≤ maxLen) :
    Calls Tryz.prog 8 #[.string entry, vX, v] w (LkPost entry ex os w) := by
  obtain ⟨p, hp⟩ : ∃ p, w.heap.size = p := ⟨_, rfl⟩
  have HP := Lib.hid hp
  obtain ⟨W0, hW0⟩ : ∃ W0, (w.alloc (.cells #[.slice none 0 0, .slice none 0 0, .int .i64 0] 32)).alloc (.cells #[.int .i64 0, .int .i64 0] 34) = W0 := ⟨_, rfl⟩
  have hb0 : Below w.heap.size w W0 := by rw [← hW0]; exact ((Below.refl _ _).alloc (Nat.le_refl _) _).alloc (by simp) _
  have HI0 : Hid (Blk W0 p 32 #[.slice none 0 0, .slice none 0 0, .int .i64 0]) := by rw [← hW0, ← hp]; exact (Blk.new w _ _).alloc _
  have HF0 : Hid (Blk W0 (p + 1) 34 #[.int .i64 0, .int .i64 0]) := by rw [← hW0, ← hp]; exact blk_at (by simp) _ _
  have HS0 : Hid (W0.heap.size = p + 2) := by show _ = _; rw [← hW0, ← hp]; simp
  have HST := Lib.hid (start_any vX v ex os W0 (hX.below hb0) (h.below hb0) (ho.below h0 hb0) (Nat.lt_of_lt_of_le h0 hb0.size) hnm hN hB hxl)
  have HB0 := Lib.hid hb0
  have HNMS := Lib.hid hnm
  clear hX h ho h0 hnm hN hB hb0
  go_enter Tryz.func8, Tryz.ntmps8
  go_wp2_with fail
  try rw [hp]
  try rw [hW0]
  clear hW0 hp
  refine HST.out.mono ?_
  rintro e w1 ⟨pv, rfl, hb1, hpo⟩
  obtain ⟨f1, f2, hF⟩ : ∃ f1 f2, stF ex os = (f1, f2) := ⟨_, _, rfl⟩
  rw [hF] at hpo ⊢
  dsimp only at hpo ⊢
  have HFF := Lib.hid hF
  have HB1 := Lib.hid hb1
  have HPO := Lib.hid hpo
  have HI1 := Lib.hid (HI0.out.below hb1 HI0.out.lt)
  have HF1 := Lib.hid (HF0.out.below hb1 HF0.out.lt)
  have HPS : Hid (p + 2 ≤ w1.heap.size) := by show _ ≤ _; rw [← HS0.out]; exact hb1.size
  clear hb1 hpo hF HST
  by_cases hf : f2 = 0
  · subst hf
    go_upto_region 4 with fail
    obtain ⟨k, z1, z2, z3, z4, vR, bN, bP, n, m, rfl, hlk, hob, hrg, hmN, hmP⟩ := HPO.out rfl
    obtain ⟨J, f3, f4, hJ⟩ : ∃ J f3 f4, jres os = (J, f3, f4) := ⟨_, _, _, rfl⟩
    have hJ0 : f4 = 0 := by
      have h := HFF.out
      unfold stF at h
      rw [hJ] at h
      by_cases h4 : f4 = 0
      · exact h4
      · simp only [ne_eq, h4, not_false_eq_true, if_true] at h
        injection h with _ h
    subst hJ0
    have HJ := Lib.hid hJ
    rw [hJ] at hob hrg hmN hmP
    dsimp only at hob hrg hmN hmP
    obtain ⟨A1, c1, e1, m1⟩ := hob.tx.form
    obtain ⟨A2, c2, e2, m2⟩ := hob.dt.form
    obtain ⟨A4, c4, e4, m4, m4'⟩ := hob.rl.form
    obtain ⟨N1, hN1⟩ : ∃ n, J.tx.length = n := ⟨_, rfl⟩
    obtain ⟨N2, hN2⟩ : ∃ n, J.dt.length = n := ⟨_, rfl⟩
    obtain ⟨N4, hN4⟩ : ∃ n, J.rl.length = n := ⟨_, rfl⟩
    rw [hN1] at e1
    rw [hN2] at e2
    rw [hN4] at e4 m4
    obtain ⟨s1, s2, s3, s4⟩ := jres_size hJ
    have HNN := Lib.hid (And.intro hN1 (And.intro hN2 hN4))
    subst e1
    subst e2
    subst e4
    obtain ⟨q, hq⟩ : ∃ q, w1.heap.size = q := ⟨_, rfl⟩
    obtain ⟨W2, hW2⟩ : ∃ W2, w1.alloc (.cells #[.int .i64 f1, .int .i64 0] 34) = W2 := ⟨_, rfl⟩
    have hb2 : Below w1.heap.size w1 W2 := by rw [← hW2]; exact (Below.refl _ _).alloc (Nat.le_refl _) _
    have HLK := Lib.hid hlk
    have HOB := Lib.hid hob
    have HRG := Lib.hid hrg
    have HMN := Lib.hid hmN
    have HMP := Lib.hid hmP
    have HB2 := Lib.hid hb2
    have HQ : Hid (q + 1 ≤ W2.heap.size) := by show _ ≤ _; rw [← hW2, ← hq]; simp
    clear hlk hob hrg hmN hmP hJ hN1 hN2 hN4
    rw [hW2]
    have HLK2 := Lib.hid (Blk.below HLK.out hb2 (Blk.lt HLK.out))
    have HC1 := Lib.hid (clone_any _ J.tx W2.drew ((HOB.out.below HB2.out.drew).tx) (by omega))
    have k0 : W2.cell? ⟨k, 0, none⟩ = some (.slice A1 N1 c1) := by rw [HLK2.out.cell]; rfl
    have k1 : W2.cell? ⟨k, 1, none⟩ = some (.slice A2 N2 c2) := by rw [HLK2.out.cell]; rfl
    have HKK := Lib.hid (And.intro k0 k1)
    clear hW2 hb2 k0 k1
    refine wp_region_held_drew (S := (fun W => W.cell? ⟨k, 0, none⟩ = some (.slice A1 N1 c1) ∧ W.cell? ⟨k, 1, none⟩ = some (.slice A2 N2 c2))) (by kernel_rfl) ?_ (fun hHeld => ?_)
    · exact HKK.out
    refine FU 14 rfl ?_
    iterate 5 ((first | (refine TN 14 ?_ rfl ?_ ?_; rotate_left 1; focus (intro w h; (try dsimp only at h); first | (go_simp; done) | (go_simp; with_reducible rfl))) | refine TM 14 rfl ?_); (try simp only [AP, Nat.reduceAdd, Nat.reduceSub]))
    ((first | (refine TW 6 ?_ rfl ?_ ?_; rotate_left 1; focus (intro w h; (try dsimp only at h); first | (go_simp; done) | (go_simp; with_reducible rfl))) | refine TU 6 rfl ?_); (try simp only [AP, Nat.reduceAdd, Nat.reduceSub]))
    ((first | (refine TW 7 ?_ rfl ?_ ?_; rotate_left 1; focus (intro w h; (try dsimp only at h); first | (go_simp; done) | (go_simp; with_reducible rfl))) | refine TU 7 rfl ?_); (try simp only [AP, Nat.reduceAdd, Nat.reduceSub]))
    ((first | (refine TW 8 ?_ rfl ?_ ?_; rotate_left 1; focus (intro w h; (try dsimp only at h); first | (go_simp; done) | (go_simp; with_reducible rfl))) | refine TU 8 rfl ?_); (try simp only [AP, Nat.reduceAdd, Nat.reduceSub]))
    ((first | (refine TW 9 ?_ rfl ?_ ?_; rotate_left 1; focus (intro w h; (try dsimp only at h); first | (go_simp; done) | (go_simp; with_reducible rfl))) | refine TU 9 rfl ?_); (try simp only [AP, Nat.reduceAdd, Nat.reduceSub]))
    ((first | (refine TW 10 ?_ rfl ?_ ?_; rotate_left 1; focus (intro w h; (try dsimp only at h); first | (go_simp; done) | (go_simp; with_reducible rfl))) | refine TU 10 rfl ?_); (try simp only [AP, Nat.reduceAdd, Nat.reduceSub]))
    refine wpAnyH_ready (rs := [5]) (by kernel_rfl) (by simp) ?_
    refine AllReadyH.cons rfl (fun K hK => ?_) AllReadyH.nil
    rw [if_pos (by rfl)]
    go_simp
    refine HC1.out.mono ?_
    rintro e w3 ⟨vT, rfl, hoT, hb3⟩
    have hba : Below w1.heap.size w1 w3 := HB2.out.drew.trans (hb3.mono (by show w1.heap.size ≤ W2.heap.size; exact HB2.out.size))
    have HBA := Lib.hid hba
    have HC2 := Lib.hid (clone_any _ J.dt w3 ((HOB.out.below hba).dt) (by omega))
    have HOT := Lib.hid (own_lower hoT (B' := w1.heap.size) (by show w1.heap.size ≤ W2.heap.size; exact HB2.out.size))
    have hkk : w3.cell? ⟨k, 0, none⟩ = some (.slice A1 N1 c1) ∧ w3.cell? ⟨k, 1, none⟩ = some (.slice A2 N2 c2) := by
      have hl := Blk.below HLK.out hba (Blk.lt HLK.out)
      exact ⟨by rw [hl.cell]; rfl, by rw [hl.cell]; rfl⟩
    have HKK3 := Lib.hid hkk
    clear hoT hb3 hba hkk
    try go_wp2_with fail
    refine hK.out _ _ HKK3.out (fun hHeld => ?_)
    clear hK K
    try simp only [AP]
    refine wpAnyH_ready (rs := [11]) (by kernel_rfl) (by simp) ?_
    refine AllReadyH.cons rfl (fun K hK => ?_) AllReadyH.nil
    rw [if_pos (by rfl)]
    go_simp
    refine HC2.out.mono ?_
    rintro e w4 ⟨vD, rfl, hoD, hb4⟩
    have hbb : Below w1.heap.size w1 w4 := HBA.out.trans (hb4.mono HBA.out.size)
    have HKL : Hid (KL w1 w4 vT vD J.tx J.dt) := Lib.hid ⟨ownsRow_keeps HOT.out (keeps_of_below (fun _ => False) hb4) (fun _ _ => id), own_lower hoD HBA.out.size, hbb⟩
    have HNE : Hid (∀ g, vT.ownBlock = some g → vD.ownBlock ≠ some g) := Lib.hid fun g hg hg2 => by
      have h1 := own_ge hoD hg2
      obtain ⟨cur, hbk⟩ := owns_kind HOT.out hg
      have h2 := hbk.lt
      omega
    have hkk : w4.cell? ⟨k, 0, none⟩ = some (.slice A1 N1 c1) ∧ w4.cell? ⟨k, 1, none⟩ = some (.slice A2 N2 c2) := by
      have hl := Blk.below HLK.out hbb (Blk.lt HLK.out)
      exact ⟨by rw [hl.cell]; rfl, by rw [hl.cell]; rfl⟩
    have HKK4 := Lib.hid hkk
    clear hoD hb4 hbb hkk
    try go_wp2_with fail
    refine hK.out _ _ HKK4.out (fun hHeld => ?_)
    clear hK K
    try simp only [AP]
    ((first | (refine TW 12 ?_ rfl ?_ ?_; rotate_left 1; focus (intro w h; (try dsimp only at h); first | (go_simp; done) | (go_simp; with_reducible rfl))) | refine TU 12 rfl ?_); (try simp only [AP, Nat.reduceAdd, Nat.reduceSub]))
    ((first | (refine TW 13 ?_ rfl ?_ ?_; rotate_left 1; focus (intro w h; (try dsimp only at h); first | (go_simp; done) | (go_simp; with_reducible rfl))) | refine TU 13 rfl ?_); (try simp only [AP, Nat.reduceAdd, Nat.reduceSub]))
    refine wpAnyH_done (by kernel_rfl) ?_ _
    clear hHeld HKK HKK3 HKK4 HC1 HC2 HOT HBA
    have hl4 := Blk.below HLK.out HKL.out.low (Blk.lt HLK.out)
    have k3 : w4.cell? ⟨k, 3, none⟩ = some (.slice A4 N4 c4) := by rw [hl4.cell]; rfl
    clear hl4
    go_wp2_with fail
    clear k3
    obtain ⟨hE, hbad, rfl⟩ := stF_zero HJ.out HFF.out
    have HE := Lib.hid hE
    have HBAD := Lib.hid hbad
    clear hE hbad
    obtain ⟨F, hF⟩ : ∃ F, NF J (layR J ex) = F := ⟨_, rfl⟩
    have HNF := Lib.hid hF
    have HMN2 : Hid (MapV w1 bN n F) := by show MapV _ _ _ _; rw [← hF]; exact HMN.out
    clear hF
    go_loopw [49] (fun iv W => ∃ i : Nat, i ≤ N4 ∧ iv = .int .i64 i ∧ Hid ((List.range i).any (fun i => lkE J F i != 0) = false) ∧ Hid (KL w1 W vT vD (lkS J F i).1 (lkS J F i).2)) (fun iv _ => N4 - (intOf iv).toNat)
    case atStart => exact ⟨0, Nat.zero_le _, rfl, rfl, HKL⟩
    case round =>
      clear HKL
      obtain ⟨i, hi, rfl, HA, HL⟩ := hrel
      by_cases hlt : i < N4
      · as_aux_lemma =>
        have hil : i < J.rl.length := by rw [HNN.out.2.2]; exact hlt
        obtain ⟨g, off, rfl, _, hc⟩ := (HOB.out.below HL.out.low).rl.at_ (by omega)
        have hcx := hc i hil
        have hin := jres_in HJ.out (J.rl.getD i default) (by simp [List.getD, hil])
        have hnm := (jres_names HJ.out HNMS.out).2 (J.rl.getD i default) (by simp [List.getD, hil])
        have hstep := fun (W W' : World) (h : KL w1 W vT vD (lkS J F i).1 (lkS J F i).2) => KL.step (W' := W') h
        obtain ⟨c, hcc⟩ : ∃ c, lkE J F i = c := ⟨_, rfl⟩
        have HCC := Lib.hid hcc
        unfold lkE at hcc
        obtain ⟨r, hr⟩ : ∃ r, J.rl.getD i default = r := ⟨_, rfl⟩
        rw [hr] at hcx hin hnm hstep hcc
        obtain ⟨d0, d1, d2, d3, d4⟩ := hcx
        obtain ⟨a1, a2, a3, a4, a5, a6⟩ := hin
        obtain ⟨hlen1, hlen2⟩ := lkS_len (F := F) (jres_in HJ.out) i (by omega)
        obtain ⟨bs, hbs⟩ : ∃ bs, (if r.sec = 1 then (lkS J F i).2 else (lkS J F i).1) = bs := ⟨_, rfl⟩
        rw [hbs] at hstep hcc
        have hbl : bs.length = (J.sec r.sec).length := by
          rw [← hbs]
          unfold Ob.sec
          by_cases h1 : r.sec = 1
          · rw [if_pos h1, if_neg (by omega)]; exact hlen2
          · rw [if_neg h1, if_pos (by omega)]; exact hlen1
        have hbl2 : bs.length ≤ 1048576 := by
          rw [hbl]
          unfold Ob.sec
          split <;> omega
        have hb3 : Below wr.heap.size wr (wr.alloc (.cells #[.int .i64 r.sec, .int .i64 r.at_, .int .i64 r.kd, .int .i64 r.add, .string r.nm] 51)) := (Below.refl _ _).alloc (Nat.le_refl _) _
        have hL3 := HL.out.bel hb3
        have hoB : OwnB (wr.alloc (.cells #[.int .i64 r.sec, .int .i64 r.at_, .int .i64 r.kd, .int .i64 r.add, .string r.nm] 51)) w1.heap.size (if r.sec = 1 then vD else vT) bs := by
          rw [← hbs]
          by_cases h1 : r.sec = 1
          · rw [if_pos h1, if_pos h1]; exact hL3.d
          · rw [if_neg h1, if_neg h1]; exact hL3.t
        have hRow := HRG.out.row (layR_names HE.out)
        have hvT : ∃ A n c, vT = .slice A n c := by obtain ⟨A, cp, e, _⟩ := RowOf.own hL3.t; exact ⟨_, _, _, e⟩
        have hvD : ∃ A n c, vD = .slice A n c := by obtain ⟨A, cp, e, _⟩ := RowOf.own hL3.d; exact ⟨_, _, _, e⟩
        have hput := put_any k bN bP _ _ _ _ vR vT vD (layR J ex) F r bs w1.heap.size n 4096 _ (Blk.below HLK.out hL3.low (Blk.lt HLK.out)) (HMN2.out.below hL3.low)
          (fun v hv => by
            rw [← HNF.out] at hv
            exact NF_val (fun r hr => (ex_sizes HE.out r hr).1) HBAD.out (fun x hx => ⟨(jres_lb HJ.out x hx).1, (jres_lb HJ.out x hx).2.1, (jres_lb HJ.out x hx).2.2.2⟩) hv)
          (hRow.below hL3.low) (by intro e; have := layR_len J ex; rw [e] at this; simp at this) (by rw [layR_0]) ⟨by decide, by decide⟩ hvT hvD hoB ⟨a3, by rw [hbl]; exact a4, a5, a6⟩ hbl2 hnm
        rw [hcc] at hput
        have hlow := fun (W' : World) => KL.low' (W' := W') (c := decide (r.sec = 1)) hL3
        obtain ⟨vB, hvB⟩ : ∃ vB, (if r.sec = 1 then vD else vT) = vB := ⟨_, rfl⟩
        have hvB2 : (if decide (r.sec = 1) = true then vD else vT) = vB := by rw [← hvB]; simp
        rw [hvB] at hput
        have HSTEP : Hid (∀ W' : World, Keeps (fun j => some j = vB.ownBlock) (wr.alloc (.cells #[.int .i64 r.sec, .int .i64 r.at_, .int .i64 r.kd, .int .i64 r.add, .string r.nm] 51)) W' → OwnB W' w1.heap.size vB (set4 bs r.at_.toNat (wB (putR (valI (F r.nm)) r 4096 bs).2)) → KL w1 W' vT vD (lkS J F (i + 1)).1 (lkS J F (i + 1)).2) := Lib.hid fun W' hk ho => by
          refine hstep _ _ hL3 ?_ ?_ HNE.out
          · rw [hvB]; exact hk
          · rw [hvB]; exact ho
        have HLOW : Hid (∀ W' : World, Keeps (fun j => some j = vB.ownBlock) (wr.alloc (.cells #[.int .i64 r.sec, .int .i64 r.at_, .int .i64 r.kd, .int .i64 r.add, .string r.nm] 51)) W' → Below w1.heap.size w1 W') := Lib.hid fun W' hk => hlow W' (by rw [hvB2]; exact hk)
        have HPUT := Lib.hid hput
        have e3 : (i : Int) < (N4 : Int) := by omega
        have e5 : (0 : Int) ≤ (i : Int) := by omega
        have e6 : IntKind.i64.wrap ((i : Int) + 1) = ((i + 1 : Nat) : Int) := by rw [IntWalk.i64_in _ (by omega)]; omega
        clear hc hstep hcc hr hbs hbl hbl2 hb3 hL3 hoB hRow hvT hvD hput hlow hvB hvB2 hlen1 hlen2 a1 a2 a3 a4 a5 a6 hnm
        go_wp2_with fail
        refine HPUT.out.mono ?_
        rintro e w9 ⟨rfl, hk9, ho9⟩
        have HO9 := Lib.hid ho9
        have HK9 := Lib.hid hk9
        have hlow9 := HLOW.out w9 hk9
        clear hk9 ho9
        by_cases hc0 : c = 0
        · subst hc0
          have HKL9 := Lib.hid (HSTEP.out w9 HK9.out (HO9.out rfl))
          have HA2 : Hid ((List.range (i + 1)).any (fun i => lkE J F i != 0) = false) := rng_miss HA.out (by rw [HCC.out]; rfl)
          clear hlow9
          go_wp2_with fail
          go_roundw
          case rel => exact ⟨i + 1, by omega, by go_num, HA2, HKL9⟩
          case measure => simp [intOf]; omega
        · have hc1 : (c != 0) = true := by simpa using hc0
          have HLF : Hid (lkF entry ex os = ((i : Int), c)) := lkF_at HJ.out HFF.out hil (by rw [HNF.out]; exact HA.out) (by rw [HNF.out]; exact HCC.out) hc0
          have hI2 := HI1.out.below hlow9 HI1.out.lt
          have hF2 := HF1.out.below hlow9 HF1.out.lt
          have HOUT := Lib.hid (link_out hI2 hF2 (keeps_of_below (fun _ => False) (HB0.out.trans ((HB1.out.trans (hlow9.mono HB1.out.size)).mono HB0.out.size))) (by rw [HP.out]; exact Nat.le_refl _) (.slice none 0 0) (.slice none 0 0) (.int .i64 0) (.int .i64 i) (.int .i64 c))
          have i0 : w9.cell? ⟨p, 0, none⟩ = some (.slice none 0 0) := by rw [hI2.cell]; rfl
          have i1 : w9.cell? ⟨p, 1, none⟩ = some (.slice none 0 0) := by rw [hI2.cell]; rfl
          have i2 : w9.cell? ⟨p, 2, none⟩ = some (.int .i64 0) := by rw [hI2.cell]; rfl
          have l0 : w9.cell? ⟨p + 1, 0, none⟩ = some (.int .i64 0) := by rw [hF2.cell]; rfl
          have l1 : w9.cell? ⟨p + 1, 1, none⟩ = some (.int .i64 0) := by rw [hF2.cell]; rfl
          have fi0 := hI2.frozen 0
          have fi1 := hI2.frozen 1
          have fi2 := hI2.frozen 2
          have fl0 := hF2.frozen 0
          have fl1 := hF2.frozen 1
          clear hI2 hF2 hlow9
          go_wp2_with fail
          obtain ⟨W3, hW3, h1, h2, h3, _⟩ := HOUT.out
          rw [← hW3]
          have y0 := h1.cell 0
          have y1 := h1.cell 1
          have y2 := h1.cell 2
          have z0 := h2.cell 0
          have z1 := h2.cell 1
          refine bodyPost_ret (v := .tuple #[.agg #[.slice none 0 0, .slice none 0 0, .int .i64 0], .agg #[.int .i64 i, .int .i64 c]]) (by simp [results, Tryz.results8, y0, y1, y2, z0, z1, go_sem]) rfl ?_
          exact ⟨_, by rw [HLF.out], h3.below, fun _ => rfl, fun h => by rw [HLF.out] at h; exact absurd h hc0⟩
      · have hiN : i = N4 := by omega
        subst hiN
        have HLF := Lib.hid (lkF_end (entry := entry) HJ.out HFF.out (by rw [HNF.out, HNN.out.2.2]; exact HA.out))
        have hlow := HL.out.low
        have HLW := Lib.hid hlow
        have hlk5 := Blk.below HLK.out hlow (Blk.lt HLK.out)
        have HLK5 := Lib.hid hlk5
        have HMP5 := Lib.hid (HMP.out.below hlow)
        have HMN5 := Lib.hid (HMN2.out.below hlow)
        clear HA hlow
        generalize wr = wz at *
        have k6 : wz.cell? ⟨k, 6, none⟩ = some (.map (some bP)) := by rw [HLK5.out.cell]; rfl
        have hlk := HMP5.out.look2 (z := .agg #[.string ⟨#[]⟩, .int .i64 0, .int .i64 0, .bool false]) Tryz.underlying63 (by simp [go_sem]) entry hen
        cases hpl : placeF J.lb entry with
        | none =>
          rw [hpl] at hlk
          replace hlk : (Instr.lookup 63 (.map (some bP)) (.string entry) true).run Tryz.prog wz = .ok (.tuple #[.agg #[.string ⟨#[]⟩, .int .i64 0, .int .i64 0, .bool false], .bool false]) wz := hlk
          have HLF2 : Hid (lkF entry ex os = (0, 4)) := by
            show _ = _
            rw [HLF.out]
            unfold entOK
            rw [hpl]
            rfl
          clear hlk5 hpl
          go_upto_region 13 with fail
          obtain ⟨W5, hW5⟩ : ∃ W5, wz.alloc (.cells #[.string ⟨#[]⟩, .int .i64 0, .int .i64 0, .bool false] 68) = W5 := ⟨_, rfl⟩
          have hb5 : Below wz.heap.size wz W5 := by rw [← hW5]; exact (Below.refl _ _).alloc (Nat.le_refl _) _
          obtain ⟨s, hs⟩ : ∃ s, wz.heap.size = s := ⟨_, rfl⟩
          have hS : Blk W5 s 68 #[.string ⟨#[]⟩, .int .i64 0, .int .i64 0, .bool false] := by rw [← hW5, ← hs]; exact Blk.new wz _ _
          rw [hW5, hs]
          have s1' : W5.cell? ⟨s, 1, none⟩ = some (.int .i64 0) := by rw [hS.cell]; rfl
          have hlow5 : Below w1.heap.size w1 W5 := HLW.out.trans (hb5.mono HLW.out.size)
          have hI2 := HI1.out.below hlow5 HI1.out.lt
          have hF2 := HF1.out.below hlow5 HF1.out.lt
          have i0 : W5.cell? ⟨p, 0, none⟩ = some (.slice none 0 0) := by rw [hI2.cell]; rfl
          have i1 : W5.cell? ⟨p, 1, none⟩ = some (.slice none 0 0) := by rw [hI2.cell]; rfl
          have i2 : W5.cell? ⟨p, 2, none⟩ = some (.int .i64 0) := by rw [hI2.cell]; rfl
          have l0 : W5.cell? ⟨p + 1, 0, none⟩ = some (.int .i64 0) := by rw [hF2.cell]; rfl
          have l1 : W5.cell? ⟨p + 1, 1, none⟩ = some (.int .i64 0) := by rw [hF2.cell]; rfl
          have fi0 := hI2.frozen 0
          have fi1 := hI2.frozen 1
          have fi2 := hI2.frozen 2
          have fl0 := hF2.frozen 0
          have fl1 := hF2.frozen 1
          have HOUT := Lib.hid (link_out hI2 hF2 (keeps_of_below (fun _ => False) (HB0.out.trans ((HB1.out.trans (hlow5.mono HB1.out.size)).mono HB0.out.size))) (by rw [HP.out]; exact Nat.le_refl _) (.slice none 0 0) (.slice none 0 0) (.int .i64 0) (.int .i64 0) (.int .i64 4))
          clear hI2 hF2 hlow5 hb5 hW5 hs hS
          go_wp2_with fail
          obtain ⟨W3, hW3, h1, h2, h3, _⟩ := HOUT.out
          rw [← hW3]
          have y0 := h1.cell 0
          have y1 := h1.cell 1
          have y2 := h1.cell 2
          have z0 := h2.cell 0
          have z1 := h2.cell 1
          refine bodyPost_ret (v := .tuple #[.agg #[.slice none 0 0, .slice none 0 0, .int .i64 0], .agg #[.int .i64 0, .int .i64 4]]) (by simp [results, Tryz.results8, y0, y1, y2, z0, z1, go_sem]) rfl ?_
          exact ⟨_, by rw [HLF2.out], h3.below, fun _ => rfl, fun h => by rw [HLF2.out] at h; exact absurd h (by show ¬ (4 : Int) = 0; decide)⟩
        | some vl =>
          obtain ⟨⟨xn, xs, xa, xg⟩, hxm, hxe, hxv⟩ := putsF_val _ _ _ _ _ hpl
          clear hxe
          subst hxv
          rw [hpl] at hlk
          replace hlk : (Instr.lookup 63 (.map (some bP)) (.string entry) true).run Tryz.prog wz = .ok (.tuple #[.agg #[.string xn, .int .i64 xs, .int .i64 xa, .bool xg], .bool true]) wz := hlk
          have hent : entOK J entry = decide (xs = 0) := by
            unfold entOK
            rw [hpl]
            rfl
          rw [hent] at HLF
          clear hlk5 hpl hent
          go_upto_region 13 with fail
          obtain ⟨W5, hW5⟩ : ∃ W5, wz.alloc (.cells #[.string xn, .int .i64 xs, .int .i64 xa, .bool xg] 68) = W5 := ⟨_, rfl⟩
          have hb5 : Below wz.heap.size wz W5 := by rw [← hW5]; exact (Below.refl _ _).alloc (Nat.le_refl _) _
          obtain ⟨s, hs⟩ : ∃ s, wz.heap.size = s := ⟨_, rfl⟩
          have hS : Blk W5 s 68 #[.string xn, .int .i64 xs, .int .i64 xa, .bool xg] := by rw [← hW5, ← hs]; exact Blk.new wz _ _
          rw [hW5, hs]
          have s1' : W5.cell? ⟨s, 1, none⟩ = some (.int .i64 xs) := by rw [hS.cell]; rfl
          have hlow5 : Below w1.heap.size w1 W5 := HLW.out.trans (hb5.mono HLW.out.size)
          by_cases hxs : xs = 0
          · subst hxs
            obtain ⟨AR, cR, hvR, hcR, hcR2, _⟩ := HRG.out.row (layR_names HE.out)
            obtain ⟨NR, hNR⟩ : ∃ n, (layR J ex).length = n := ⟨_, rfl⟩
            rw [hNR] at hvR hcR
            have HNR := Lib.hid hNR
            clear hNR
            subst hvR
            have HLK6 := Lib.hid (Blk.below HLK.out hlow5 (Blk.lt HLK.out))
            have HMN6 := Lib.hid (HMN2.out.below hlow5)
            have HL5 := Lib.hid (HL.out.bel hb5)
            clear hs hW5 hb5 hS
            go_upto_region 15 with fail
            clear s1'
            obtain ⟨en, hen2, hen3, hen4⟩ : ∃ en : Int, (F entry).getD (.int .i64 0) = .int .i64 en ∧ 0 ≤ en ∧ en ≤ 16777216 := by
              cases hc : F entry with
              | none => exact ⟨0, rfl, by decide, by decide⟩
              | some u =>
                rw [← HNF.out] at hc
                obtain ⟨x, rfl, h1, h2⟩ := NF_val (fun r hr => (ex_sizes HE.out r hr).1) HBAD.out (fun x hx => ⟨(jres_lb HJ.out x hx).1, (jres_lb HJ.out x hx).2.1, (jres_lb HJ.out x hx).2.2.2⟩) hc
                exact ⟨x, rfl, h1, h2⟩
            have HEN := Lib.hid (And.intro hen2 (And.intro hen3 hen4))
            have lk1 := (HMN6.out.below (Below.refl _ _).drew).look (z := .int .i64 0) Tryz.underlying62 (by simp [go_sem]) entry hen
            rw [hen2] at lk1
            have hz : Below W5.heap.size W5 (W5.alloc (.cells #[.slice none 0 0, .slice none 0 0, .int .i64 0] 32)) := (Below.refl _ _).alloc (Nat.le_refl _) _
            have lk2 := (HMN6.out.below hz.drew).look (z := .int .i64 0) Tryz.underlying62 (by simp [go_sem]) entry hen
            rw [hen2] at lk2
            have m4a : W5.cell? ⟨k, 4, none⟩ = some (.slice AR NR cR) := by rw [HLK6.out.cell]; rfl
            have m5a : W5.cell? ⟨k, 5, none⟩ = some (.map (some bN)) := by rw [HLK6.out.cell]; rfl
            have m4b : (W5.alloc (.cells #[.slice none 0 0, .slice none 0 0, .int .i64 0] 32)).cell? ⟨k, 4, none⟩ = some (.slice AR NR cR) := by rw [(Blk.below HLK6.out hz (Blk.lt HLK6.out)).cell]; rfl
            have m5b : (W5.alloc (.cells #[.slice none 0 0, .slice none 0 0, .int .i64 0] 32)).cell? ⟨k, 5, none⟩ = some (.map (some bN)) := by rw [(Blk.below HLK6.out hz (Blk.lt HLK6.out)).cell]; rfl
            clear hen2 hen3 hen4 hz
            go_cut [17] from 84 to 94 (fun v W => v = .pointer (some ⟨W5.heap.size, 0, none⟩) ∧ W = (W5.alloc (.cells #[.slice AR NR cR, .slice none 0 0, .int .i64 en] 32)).drew)
            case first =>
              go_region
              all_goals
                go_wp2_with fail
                go_meet
                case rel => exact ⟨rfl, rfl⟩
            case rest =>
              obtain ⟨rfl, rfl⟩ := hcut
              clear lk1 lk2 m4a m5a m4b m5b
              obtain ⟨o, ho⟩ : ∃ o, W5.heap.size = o := ⟨_, rfl⟩
              obtain ⟨W6, hW6⟩ : ∃ W6, (W5.alloc (.cells #[.slice AR NR cR, .slice none 0 0, .int .i64 en] 32)).drew = W6 := ⟨_, rfl⟩
              have hO6 : Blk W6 o 32 #[.slice AR NR cR, .slice none 0 0, .int .i64 en] := by rw [← hW6, ← ho]; exact (Blk.new W5 _ _).drew
              have hb6 : Below W5.heap.size W5 W6 := by rw [← hW6]; exact ((Below.refl _ _).alloc (Nat.le_refl _) _).drew
              have HL6 := Lib.hid (HL5.out.bel hb6)
              have HO6 := Lib.hid hO6
              have HGE : Hid (w1.heap.size ≤ o) := by show _ ≤ _; rw [← ho]; exact hlow5.size
              rw [hW6, ho]
              clear hb6 hO6 hlow5
              obtain ⟨T, hT⟩ : ∃ T, (lkS J F i).1 = T := ⟨_, rfl⟩
              obtain ⟨D, hD⟩ : ∃ D, (lkS J F i).2 = D := ⟨_, rfl⟩
              rw [hT, hD] at HL6
              have HTD := Lib.hid (And.intro hT hD)
              obtain ⟨AT, cT, hvT, _, _, _⟩ := RowOf.own HL6.out.t
              obtain ⟨AD, cD, hvD, _, _, _⟩ := RowOf.own HL6.out.d
              obtain ⟨NT, hNT⟩ : ∃ n, T.length = n := ⟨_, rfl⟩
              obtain ⟨ND, hND⟩ : ∃ n, D.length = n := ⟨_, rfl⟩
              rw [hNT] at hvT
              rw [hND] at hvD
              have HNTD := Lib.hid (And.intro hNT hND)
              clear hT hD hNT hND
              subst hvT
              subst hvD
              clear hW6 ho
              go_upto_region 17 with fail
              -- LOOP2
              obtain ⟨f0, hf0⟩ : ∃ f0, ((layR J ex).getD 0 default).fr = f0 := ⟨_, rfl⟩
              obtain ⟨f1, hf1⟩ : ∃ f1, ((layR J ex).getD 1 default).fr = f1 := ⟨_, rfl⟩
              have HF01 := Lib.hid (And.intro hf0 hf1)
              obtain ⟨AR', cR', ea, _, _, _, hcc⟩ := HRG.out.row (layR_names HE.out)
              injection ea with ea1 ea2 ea3
              subst ea1
              clear ea2 ea3
              have hNR2 : 2 ≤ NR := by rw [← HNR.out, layR_len]; omega
              obtain ⟨gR, oR, rfl, hgR, hcR9⟩ := hcc (by intro e; have := layR_len J ex; rw [e] at this; simp at this)
              have hl0 : 0 < (layR J ex).length := by rw [HNR.out]; omega
              have hl1 : 1 < (layR J ex).length := by rw [HNR.out]; omega
              have HQ0 : Hid (w1.cell? ⟨gR, oR + 1, none⟩ = some (.int .i64 f0)) := by
                show _ = _
                have h := (hcR9.five hl0).2.1
                have e : (layR J ex)[0] = (layR J ex).getD 0 default := by simp [List.getD, hl0]
                rw [e, hf0] at h
                simpa using h
              have HQ1 : Hid (w1.cell? ⟨gR, oR + 5 + 1, none⟩ = some (.int .i64 f1)) := by
                show _ = _
                have h := (hcR9.five hl1).2.1
                have e : (layR J ex)[1] = (layR J ex).getD 1 default := by simp [List.getD, hl1]
                rw [e, hf1] at h
                simpa using h
              clear hf0 hf1 hcc hcR9 hl0 hl1
              obtain ⟨ba, hba⟩ : ∃ ba, W6.heap.size = ba := ⟨_, rfl⟩
              obtain ⟨W7, hW7⟩ : ∃ W7, W6.alloc (.cells #[.slice AT NT cT, .slice AD ND cD] 37) = W7 := ⟨_, rfl⟩
              have HFL : Hid (∃ vF, FL w1 W7 o ba (.slice (some ⟨gR, oR, none⟩) NR cR) (.slice AT NT cT) (.slice AD ND cD) vF en T D (plV (.slice AT NT cT) (.slice AD ND cD) T D f0 f1 0)) := by
                have hb7 : Below W6.heap.size W6 W7 := by rw [← hW7]; exact (Below.refl _ _).alloc (Nat.le_refl _) _
                refine Lib.hid ⟨.slice none 0 0, HL6.out.bel hb7, HO6.out.below hb7 HO6.out.lt, ?_, ⟨rfl, Or.inl ⟨rfl, rfl⟩⟩, HGE.out, ?_⟩
                · rw [← hW7, ← hba]; exact Blk.new W6 _ _
                · rw [← hba]; exact HL6.out.low.size
              rw [hW7, hba]
              clear hW7 hba
              go_loopw [99] (fun jv W => ∃ j : Nat, j ≤ 2 ∧ jv = .int .i64 j ∧ Hid (∃ vF, FL w1 W o ba (.slice (some ⟨gR, oR, none⟩) NR cR) (.slice AT NT cT) (.slice AD ND cD) vF en T D (plV (.slice AT NT cT) (.slice AD ND cD) T D f0 f1 j))) (fun jv _ => 2 - (intOf jv).toNat)
              case atStart => exact ⟨0, by omega, rfl, HFL⟩
              case round =>
                clear HFL
                obtain ⟨j, hj, rfl, HFL⟩ := hrel
                obtain ⟨vF, hfl⟩ := HFL.out
                clear HFL
                have hll := plV_len (.slice AT NT cT) (.slice AD ND cD) T D f0 f1 j
                by_cases hlt : j < 2
                · as_aux_lemma =>
                  rcases (show j = 0 ∨ j = 1 by omega) with rfl | rfl
                  · have g1 : (0 : Int) < (NR : Int) := by omega
                    have c0 : wr.cell? ⟨ba, 0, none⟩ = some (.slice AT NT cT) := by rw [hfl.arr.cell]; rfl
                    by_cases hn : NT = 0
                    · have hemp : T = [] := List.eq_nil_of_length_eq_zero (by rw [HNTD.out.1]; exact hn)
                      have hpl : plV (.slice AT NT cT) (.slice AD ND cD) T D f0 f1 1 = plV (.slice AT NT cT) (.slice AD ND cD) T D f0 f1 0 := by simp [plV, hemp]
                      have HFL2 : Hid (∃ vF, FL w1 wr o ba (.slice (some ⟨gR, oR, none⟩) NR cR) (.slice AT NT cT) (.slice AD ND cD) vF en T D (plV (.slice AT NT cT) (.slice AD ND cD) T D f0 f1 1)) := by
                        rw [hpl]
                        exact Lib.hid ⟨vF, hfl⟩
                      subst hn
                      clear hpl hfl hemp
                      go_wp2_with fail
                      go_roundw
                      case rel => exact ⟨1, by omega, by go_num, HFL2⟩
                      case measure => simp [intOf]
                    · have hemp : T ≠ [] := by intro e; rw [e] at HNTD; exact hn HNTD.out.1.symm
                      have hpl : plV (.slice AT NT cT) (.slice AD ND cD) T D f0 f1 1 = plV (.slice AT NT cT) (.slice AD ND cD) T D f0 f1 0 ++ [(f0, .slice AT NT cT)] := by simp [plV, hemp]
                      obtain ⟨v', w', r1, hbo, hlw', hfl2⟩ := hfl.app f0 (.slice AT NT cT) rfl hll
                      rw [← hpl] at hfl2
                      obtain ⟨AF, cF, hvF, _⟩ := RowOf.own hfl.own
                      obtain ⟨NF, hNF⟩ : ∃ n, (plV (.slice AT NT cT) (.slice AD ND cD) T D f0 f1 0).length = n := ⟨_, rfl⟩
                      rw [hNF] at hvF
                      subst hvF
                      obtain ⟨AF2, cF2, hvF2, _⟩ := RowOf.own hfl2.own
                      obtain ⟨NF2, hNF2⟩ : ∃ n, (plV (.slice AT NT cT) (.slice AD ND cD) T D f0 f1 1).length = n := ⟨_, rfl⟩
                      rw [hNF2] at hvF2
                      subst hvF2
                      have hz : Below wr.heap.size wr (wr.alloc (.cells #[.int .i64 f0, .slice AT NT cT] 46)) := (Below.refl _ _).alloc (Nat.le_refl _) _
                      have o1 : wr.cell? ⟨o, 1, none⟩ = some (.slice AF NF cF) := by rw [hfl.out.cell]; rfl
                      have o1b : (wr.alloc (.cells #[.int .i64 f0, .slice AT NT cT] 46)).cell? ⟨o, 1, none⟩ = some (.slice AF NF cF) := by rw [(hfl.out.below hz hfl.out.lt).cell]; rfl
                      have o1c : w'.cell? ⟨o, 1, none⟩ = some (.slice AF NF cF) := by rw [hbo.cell]; rfl
                      have of1 := hbo.frozen 1
                      have hlk7 := Blk.below HLK.out hfl.kl.low (Blk.lt HLK.out)
                      have m4 : wr.cell? ⟨k, 4, none⟩ = some (.slice (some ⟨gR, oR, none⟩) NR cR) := by rw [hlk7.cell]; rfl
                      have m4b : (wr.alloc (.cells #[.int .i64 f0, .slice AT NT cT] 46)).cell? ⟨k, 4, none⟩ = some (.slice (some ⟨gR, oR, none⟩) NR cR) := by rw [(Blk.below hlk7 hz (Blk.lt hlk7)).cell]; rfl
                      have q1 : wr.cell? ⟨gR, oR + 1, none⟩ = some (.int .i64 f0) := (hfl.kl.low.cell (p := ⟨gR, oR + 1, none⟩) hgR).trans HQ0.out
                      have q1b : (wr.alloc (.cells #[.int .i64 f0, .slice AT NT cT] 46)).cell? ⟨gR, oR + 1, none⟩ = some (.int .i64 f0) := (cell_al q1 _)
                      have HFL2 : Hid (∃ vF, FL w1 (w'.setCell ⟨o, 1, none⟩ (.slice AF2 NF2 cF2)) o ba (.slice (some ⟨gR, oR, none⟩) NR cR) (.slice AT NT cT) (.slice AD ND cD) vF en T D (plV (.slice AT NT cT) (.slice AD ND cD) T D f0 f1 1)) := Lib.hid ⟨_, hfl2⟩
                      have HS0 := Lib.hid (And.intro m4 q1)
                      have HS1 := Lib.hid (And.intro m4b q1b)
                      have HS2 : Hid (w'.cell? ⟨k, 4, none⟩ = some (.slice (some ⟨gR, oR, none⟩) NR cR) ∧ w'.cell? ⟨gR, oR + 1, none⟩ = some (.int .i64 f0)) := Lib.hid ⟨by rw [(Blk.below HLK.out hlw' (Blk.lt HLK.out)).cell]; rfl, (hlw'.cell (p := ⟨gR, oR + 1, none⟩) hgR).trans HQ0.out⟩
                      have HS3 : Hid ((w'.setCell ⟨o, 1, none⟩ (.slice AF2 NF2 cF2)).cell? ⟨k, 4, none⟩ = some (.slice (some ⟨gR, oR, none⟩) NR cR) ∧ (w'.setCell ⟨o, 1, none⟩ (.slice AF2 NF2 cF2)).cell? ⟨gR, oR + 1, none⟩ = some (.int .i64 f0)) := Lib.hid ⟨by rw [(Blk.below HLK.out hfl2.kl.low (Blk.lt HLK.out)).cell]; rfl, (hfl2.kl.low.cell (p := ⟨gR, oR + 1, none⟩) hgR).trans HQ0.out⟩
                      have g0 : 0 < NR := by omega
                      have hn2 : (0 : Int) < (NT : Int) := Int.natCast_pos.2 (Nat.pos_of_ne_zero hn)
                      clear hpl hfl hfl2 hemp hbo hlk7 hz hlw' m4 m4b q1 q1b
                      go_upto_region 20 with fail
                      refine wp_region_held_drew (S := (fun W => W.cell? ⟨k, 4, none⟩ = some (.slice (some ⟨gR, oR, none⟩) NR cR) ∧ W.cell? ⟨gR, oR + 1, none⟩ = some (.int .i64 f0))) (by kernel_rfl) ?_ (fun hHeld => ?_)
                      · exact HS0.out
                      refine FU 16 rfl ?_
                      ((first | (refine TW 0 ?_ rfl ?_ ?_; rotate_left 1; focus (intro w h; (try dsimp only at h); first | (go_simp; done) | (go_simp; with_reducible rfl))) | refine TU 0 rfl ?_); (try simp only [AP, Nat.reduceAdd, Nat.reduceSub]))
                      ((first | (refine TW 2 ?_ rfl ?_ ?_; rotate_left 1; focus (intro w h; (try dsimp only at h); first | (go_simp; done) | (go_simp; with_reducible rfl))) | refine TU 2 rfl ?_); (try simp only [AP, Nat.reduceAdd, Nat.reduceSub]))
                      ((first | (refine TW 3 ?_ rfl ?_ ?_; rotate_left 1; focus (intro w h; (try dsimp only at h); first | (go_simp; done) | (go_simp; with_reducible rfl))) | refine TU 3 rfl ?_); (try simp only [AP, Nat.reduceAdd, Nat.reduceSub]))
                      ((first | (refine TW 4 ?_ rfl ?_ ?_; rotate_left 1; focus (intro w h; (try dsimp only at h); first | (go_simp; done) | (go_simp; with_reducible rfl))) | refine TU 4 rfl ?_); (try simp only [AP, Nat.reduceAdd, Nat.reduceSub]))
                      ((first | (refine TW 5 ?_ rfl ?_ ?_; rotate_left 1; focus (intro w h; (try dsimp only at h); first | (go_simp; done) | (go_simp; with_reducible rfl))) | refine TU 5 rfl ?_); (try simp only [AP, Nat.reduceAdd, Nat.reduceSub]))
                      ((first | (refine TW 6 ?_ rfl ?_ ?_; rotate_left 1; focus (intro w h; (try dsimp only at h); first | (go_simp; done) | (go_simp; with_reducible rfl))) | refine TU 6 rfl ?_); (try simp only [AP, Nat.reduceAdd, Nat.reduceSub]))
                      ((first | (refine TW 7 ?_ rfl ?_ ?_; rotate_left 1; focus (intro w h; (try dsimp only at h); first | (go_simp; done) | (go_simp; with_reducible rfl))) | refine TU 7 rfl ?_); (try simp only [AP, Nat.reduceAdd, Nat.reduceSub]))
                      ((first | (refine TW 8 ?_ rfl ?_ ?_; rotate_left 1; focus (intro w h; (try dsimp only at h); first | (go_simp; done) | (go_simp; with_reducible rfl))) | refine TU 8 rfl ?_); (try simp only [AP, Nat.reduceAdd, Nat.reduceSub]))
                      ((first | (refine TW 9 ?_ rfl ?_ ?_; rotate_left 1; focus (intro w h; (try dsimp only at h); first | (go_simp; done) | (go_simp; with_reducible rfl))) | refine TU 9 rfl ?_); (try simp only [AP, Nat.reduceAdd, Nat.reduceSub]))
                      ((first | (refine TW 10 ?_ rfl ?_ ?_; rotate_left 1; focus (intro w h; (try dsimp only at h); first | (go_simp; done) | (go_simp; with_reducible rfl))) | refine TU 10 rfl ?_); (try simp only [AP, Nat.reduceAdd, Nat.reduceSub]))
                      ((first | (refine TW 11 ?_ rfl ?_ ?_; rotate_left 1; focus (intro w h; (try dsimp only at h); first | (go_simp; done) | (go_simp; with_reducible rfl))) | refine TU 11 rfl ?_); (try simp only [AP, Nat.reduceAdd, Nat.reduceSub]))
                      refine wpAnyH_ready (rs := [1, 12]) (by kernel_rfl) (by simp) ?_
                      refine AllReadyH.cons rfl (fun K hK => ?_) (AllReadyH.cons rfl (fun K hK => ?_) AllReadyH.nil)
                      · rw [if_pos (by rfl)]
                        go_simp
                        refine hK.out _ _ HS0.out (fun hHeld => ?_)
                        clear hK K
                        try simp only [AP]
                        refine wpAnyH_ready (rs := [12]) (by kernel_rfl) (by simp) ?_
                        refine AllReadyH.cons rfl (fun K hK => ?_) AllReadyH.nil
                        rw [if_pos (by rfl)]
                        go_simp
                        refine hK.out _ _ HS1.out (fun hHeld => ?_)
                        clear hK K
                        try simp only [AP]
                        refine wpAnyH_ready (rs := [13]) (by kernel_rfl) (by simp) ?_
                        refine AllReadyH.cons rfl (fun K hK => ?_) AllReadyH.nil
                        refine step_append_eq rfl (.tmp 108) (.tmp 119) 30 rfl rfl rfl r1 ?_
                        refine hK.out _ _ HS2.out (fun hHeld => ?_)
                        clear hK K
                        try simp only [AP]
                        ((first | (refine TW 14 ?_ rfl ?_ ?_; rotate_left 1; focus (intro w h; (try dsimp only at h); first | (go_simp; done) | (go_simp; with_reducible rfl))) | refine TU 14 rfl ?_); (try simp only [AP, Nat.reduceAdd, Nat.reduceSub]))
                        refine wpAnyH_ready (rs := [15]) (by kernel_rfl) (by simp) ?_
                        refine AllReadyH.cons rfl (fun K hK => ?_) AllReadyH.nil
                        rw [if_pos (by rfl)]
                        go_simp
                        refine hK.out _ _ HS3.out (fun hHeld => ?_)
                        clear hK K
                        try simp only [AP]
                        refine wpAnyH_done (by kernel_rfl) ?_ _
                        clear hHeld
                        go_wp2_with fail
                        go_roundw
                        case rel => exact ⟨1, by omega, by go_num, HFL2⟩
                        case measure => simp [intOf]
                      · rw [if_pos (by rfl)]
                        go_simp
                        refine hK.out _ _ HS1.out (fun hHeld => ?_)
                        clear hK K
                        try simp only [AP]
                        refine wpAnyH_ready (rs := [1]) (by kernel_rfl) (by simp) ?_
                        refine AllReadyH.cons rfl (fun K hK => ?_) AllReadyH.nil
                        rw [if_pos (by rfl)]
                        go_simp
                        refine hK.out _ _ HS1.out (fun hHeld => ?_)
                        clear hK K
                        try simp only [AP]
                        refine wpAnyH_ready (rs := [13]) (by kernel_rfl) (by simp) ?_
                        refine AllReadyH.cons rfl (fun K hK => ?_) AllReadyH.nil
                        refine step_append_eq rfl (.tmp 108) (.tmp 119) 30 rfl rfl rfl r1 ?_
                        refine hK.out _ _ HS2.out (fun hHeld => ?_)
                        clear hK K
                        try simp only [AP]
                        ((first | (refine TW 14 ?_ rfl ?_ ?_; rotate_left 1; focus (intro w h; (try dsimp only at h); first | (go_simp; done) | (go_simp; with_reducible rfl))) | refine TU 14 rfl ?_); (try simp only [AP, Nat.reduceAdd, Nat.reduceSub]))
                        refine wpAnyH_ready (rs := [15]) (by kernel_rfl) (by simp) ?_
                        refine AllReadyH.cons rfl (fun K hK => ?_) AllReadyH.nil
                        rw [if_pos (by rfl)]
                        go_simp
                        refine hK.out _ _ HS3.out (fun hHeld => ?_)
                        clear hK K
                        try simp only [AP]
                        refine wpAnyH_done (by kernel_rfl) ?_ _
                        clear hHeld
                        go_wp2_with fail
                        go_roundw
                        case rel => exact ⟨1, by omega, by go_num, HFL2⟩
                        case measure => simp [intOf]
                  · have g1 : (1 : Int) < (NR : Int) := by omega
                    have c0 : wr.cell? ⟨ba, 1, none⟩ = some (.slice AD ND cD) := by rw [hfl.arr.cell]; rfl
                    by_cases hn : ND = 0
                    · have hemp : D = [] := List.eq_nil_of_length_eq_zero (by rw [HNTD.out.2]; exact hn)
                      have hpl : plV (.slice AT NT cT) (.slice AD ND cD) T D f0 f1 2 = plV (.slice AT NT cT) (.slice AD ND cD) T D f0 f1 1 := by simp [plV, hemp]
                      have HFL2 : Hid (∃ vF, FL w1 wr o ba (.slice (some ⟨gR, oR, none⟩) NR cR) (.slice AT NT cT) (.slice AD ND cD) vF en T D (plV (.slice AT NT cT) (.slice AD ND cD) T D f0 f1 2)) := by
                        rw [hpl]
                        exact Lib.hid ⟨vF, hfl⟩
                      subst hn
                      clear hpl hfl hemp
                      go_wp2_with fail
                      go_roundw
                      case rel => exact ⟨2, by omega, by go_num, HFL2⟩
                      case measure => simp [intOf]
                    · have hemp : D ≠ [] := by intro e; rw [e] at HNTD; exact hn HNTD.out.2.symm
                      have hpl : plV (.slice AT NT cT) (.slice AD ND cD) T D f0 f1 2 = plV (.slice AT NT cT) (.slice AD ND cD) T D f0 f1 1 ++ [(f1, .slice AD ND cD)] := by simp [plV, hemp]
                      obtain ⟨v', w', r1, hbo, hlw', hfl2⟩ := hfl.app f1 (.slice AD ND cD) rfl hll
                      rw [← hpl] at hfl2
                      obtain ⟨AF, cF, hvF, _⟩ := RowOf.own hfl.own
                      obtain ⟨NF, hNF⟩ : ∃ n, (plV (.slice AT NT cT) (.slice AD ND cD) T D f0 f1 1).length = n := ⟨_, rfl⟩
                      rw [hNF] at hvF
                      subst hvF
                      obtain ⟨AF2, cF2, hvF2, _⟩ := RowOf.own hfl2.own
                      obtain ⟨NF2, hNF2⟩ : ∃ n, (plV (.slice AT NT cT) (.slice AD ND cD) T D f0 f1 2).length = n := ⟨_, rfl⟩
                      rw [hNF2] at hvF2
                      subst hvF2
                      have hz : Below wr.heap.size wr (wr.alloc (.cells #[.int .i64 f1, .slice AD ND cD] 46)) := (Below.refl _ _).alloc (Nat.le_refl _) _
                      have o1 : wr.cell? ⟨o, 1, none⟩ = some (.slice AF NF cF) := by rw [hfl.out.cell]; rfl
                      have o1b : (wr.alloc (.cells #[.int .i64 f1, .slice AD ND cD] 46)).cell? ⟨o, 1, none⟩ = some (.slice AF NF cF) := by rw [(hfl.out.below hz hfl.out.lt).cell]; rfl
                      have o1c : w'.cell? ⟨o, 1, none⟩ = some (.slice AF NF cF) := by rw [hbo.cell]; rfl
                      have of1 := hbo.frozen 1
                      have hlk7 := Blk.below HLK.out hfl.kl.low (Blk.lt HLK.out)
                      have m4 : wr.cell? ⟨k, 4, none⟩ = some (.slice (some ⟨gR, oR, none⟩) NR cR) := by rw [hlk7.cell]; rfl
                      have m4b : (wr.alloc (.cells #[.int .i64 f1, .slice AD ND cD] 46)).cell? ⟨k, 4, none⟩ = some (.slice (some ⟨gR, oR, none⟩) NR cR) := by rw [(Blk.below hlk7 hz (Blk.lt hlk7)).cell]; rfl
                      have q1 : wr.cell? ⟨gR, oR + 5 + 1, none⟩ = some (.int .i64 f1) := (hfl.kl.low.cell (p := ⟨gR, oR + 5 + 1, none⟩) hgR).trans HQ1.out
                      have q1b : (wr.alloc (.cells #[.int .i64 f1, .slice AD ND cD] 46)).cell? ⟨gR, oR + 5 + 1, none⟩ = some (.int .i64 f1) := (cell_al q1 _)
                      have HFL2 : Hid (∃ vF, FL w1 (w'.setCell ⟨o, 1, none⟩ (.slice AF2 NF2 cF2)) o ba (.slice (some ⟨gR, oR, none⟩) NR cR) (.slice AT NT cT) (.slice AD ND cD) vF en T D (plV (.slice AT NT cT) (.slice AD ND cD) T D f0 f1 2)) := Lib.hid ⟨_, hfl2⟩
                      have HS0 := Lib.hid (And.intro m4 q1)
                      have HS1 := Lib.hid (And.intro m4b q1b)
                      have HS2 : Hid (w'.cell? ⟨k, 4, none⟩ = some (.slice (some ⟨gR, oR, none⟩) NR cR) ∧ w'.cell? ⟨gR, oR + 5 + 1, none⟩ = some (.int .i64 f1)) := Lib.hid ⟨by rw [(Blk.below HLK.out hlw' (Blk.lt HLK.out)).cell]; rfl, (hlw'.cell (p := ⟨gR, oR + 5 + 1, none⟩) hgR).trans HQ1.out⟩
                      have HS3 : Hid ((w'.setCell ⟨o, 1, none⟩ (.slice AF2 NF2 cF2)).cell? ⟨k, 4, none⟩ = some (.slice (some ⟨gR, oR, none⟩) NR cR) ∧ (w'.setCell ⟨o, 1, none⟩ (.slice AF2 NF2 cF2)).cell? ⟨gR, oR + 5 + 1, none⟩ = some (.int .i64 f1)) := Lib.hid ⟨by rw [(Blk.below HLK.out hfl2.kl.low (Blk.lt HLK.out)).cell]; rfl, (hfl2.kl.low.cell (p := ⟨gR, oR + 5 + 1, none⟩) hgR).trans HQ1.out⟩
                      have g0 : 1 < NR := by omega
                      have hn2 : (0 : Int) < (ND : Int) := Int.natCast_pos.2 (Nat.pos_of_ne_zero hn)
                      clear hpl hfl hfl2 hemp hbo hlk7 hz hlw' m4 m4b q1 q1b
                      go_upto_region 20 with fail
                      refine wp_region_held_drew (S := (fun W => W.cell? ⟨k, 4, none⟩ = some (.slice (some ⟨gR, oR, none⟩) NR cR) ∧ W.cell? ⟨gR, oR + 5 + 1, none⟩ = some (.int .i64 f1))) (by kernel_rfl) ?_ (fun hHeld => ?_)
                      · exact HS0.out
                      refine FU 16 rfl ?_
                      ((first | (refine TW 0 ?_ rfl ?_ ?_; rotate_left 1; focus (intro w h; (try dsimp only at h); first | (go_simp; done) | (go_simp; with_reducible rfl))) | refine TU 0 rfl ?_); (try simp only [AP, Nat.reduceAdd, Nat.reduceSub]))
                      ((first | (refine TW 2 ?_ rfl ?_ ?_; rotate_left 1; focus (intro w h; (try dsimp only at h); first | (go_simp; done) | (go_simp; with_reducible rfl))) | refine TU 2 rfl ?_); (try simp only [AP, Nat.reduceAdd, Nat.reduceSub]))
                      ((first | (refine TW 3 ?_ rfl ?_ ?_; rotate_left 1; focus (intro w h; (try dsimp only at h); first | (go_simp; done) | (go_simp; with_reducible rfl))) | refine TU 3 rfl ?_); (try simp only [AP, Nat.reduceAdd, Nat.reduceSub]))
                      ((first | (refine TW 4 ?_ rfl ?_ ?_; rotate_left 1; focus (intro w h; (try dsimp only at h); first | (go_simp; done) | (go_simp; with_reducible rfl))) | refine TU 4 rfl ?_); (try simp only [AP, Nat.reduceAdd, Nat.reduceSub]))
                      ((first | (refine TW 5 ?_ rfl ?_ ?_; rotate_left 1; focus (intro w h; (try dsimp only at h); first | (go_simp; done) | (go_simp; with_reducible rfl))) | refine TU 5 rfl ?_); (try simp only [AP, Nat.reduceAdd, Nat.reduceSub]))
                      ((first | (refine TW 6 ?_ rfl ?_ ?_; rotate_left 1; focus (intro w h; (try dsimp only at h); first | (go_simp; done) | (go_simp; with_reducible rfl))) | refine TU 6 rfl ?_); (try simp only [AP, Nat.reduceAdd, Nat.reduceSub]))
                      ((first | (refine TW 7 ?_ rfl ?_ ?_; rotate_left 1; focus (intro w h; (try dsimp only at h); first | (go_simp; done) | (go_simp; with_reducible rfl))) | refine TU 7 rfl ?_); (try simp only [AP, Nat.reduceAdd, Nat.reduceSub]))
                      ((first | (refine TW 8 ?_ rfl ?_ ?_; rotate_left 1; focus (intro w h; (try dsimp only at h); first | (go_simp; done) | (go_simp; with_reducible rfl))) | refine TU 8 rfl ?_); (try simp only [AP, Nat.reduceAdd, Nat.reduceSub]))
                      ((first | (refine TW 9 ?_ rfl ?_ ?_; rotate_left 1; focus (intro w h; (try dsimp only at h); first | (go_simp; done) | (go_simp; with_reducible rfl))) | refine TU 9 rfl ?_); (try simp only [AP, Nat.reduceAdd, Nat.reduceSub]))
                      ((first | (refine TW 10 ?_ rfl ?_ ?_; rotate_left 1; focus (intro w h; (try dsimp only at h); first | (go_simp; done) | (go_simp; with_reducible rfl))) | refine TU 10 rfl ?_); (try simp only [AP, Nat.reduceAdd, Nat.reduceSub]))
                      ((first | (refine TW 11 ?_ rfl ?_ ?_; rotate_left 1; focus (intro w h; (try dsimp only at h); first | (go_simp; done) | (go_simp; with_reducible rfl))) | refine TU 11 rfl ?_); (try simp only [AP, Nat.reduceAdd, Nat.reduceSub]))
                      refine wpAnyH_ready (rs := [1, 12]) (by kernel_rfl) (by simp) ?_
                      refine AllReadyH.cons rfl (fun K hK => ?_) (AllReadyH.cons rfl (fun K hK => ?_) AllReadyH.nil)
                      · rw [if_pos (by rfl)]
                        go_simp
                        refine hK.out _ _ HS0.out (fun hHeld => ?_)
                        clear hK K
                        try simp only [AP]
                        refine wpAnyH_ready (rs := [12]) (by kernel_rfl) (by simp) ?_
                        refine AllReadyH.cons rfl (fun K hK => ?_) AllReadyH.nil
                        rw [if_pos (by rfl)]
                        go_simp
                        refine hK.out _ _ HS1.out (fun hHeld => ?_)
                        clear hK K
                        try simp only [AP]
                        refine wpAnyH_ready (rs := [13]) (by kernel_rfl) (by simp) ?_
                        refine AllReadyH.cons rfl (fun K hK => ?_) AllReadyH.nil
                        refine step_append_eq rfl (.tmp 108) (.tmp 119) 30 rfl rfl rfl r1 ?_
                        refine hK.out _ _ HS2.out (fun hHeld => ?_)
                        clear hK K
                        try simp only [AP]
                        ((first | (refine TW 14 ?_ rfl ?_ ?_; rotate_left 1; focus (intro w h; (try dsimp only at h); first | (go_simp; done) | (go_simp; with_reducible rfl))) | refine TU 14 rfl ?_); (try simp only [AP, Nat.reduceAdd, Nat.reduceSub]))
                        refine wpAnyH_ready (rs := [15]) (by kernel_rfl) (by simp) ?_
                        refine AllReadyH.cons rfl (fun K hK => ?_) AllReadyH.nil
                        rw [if_pos (by rfl)]
                        go_simp
                        refine hK.out _ _ HS3.out (fun hHeld => ?_)
                        clear hK K
                        try simp only [AP]
                        refine wpAnyH_done (by kernel_rfl) ?_ _
                        clear hHeld
                        go_wp2_with fail
                        go_roundw
                        case rel => exact ⟨2, by omega, by go_num, HFL2⟩
                        case measure => simp [intOf]
                      · rw [if_pos (by rfl)]
                        go_simp
                        refine hK.out _ _ HS1.out (fun hHeld => ?_)
                        clear hK K
                        try simp only [AP]
                        refine wpAnyH_ready (rs := [1]) (by kernel_rfl) (by simp) ?_
                        refine AllReadyH.cons rfl (fun K hK => ?_) AllReadyH.nil
                        rw [if_pos (by rfl)]
                        go_simp
                        refine hK.out _ _ HS1.out (fun hHeld => ?_)
                        clear hK K
                        try simp only [AP]
                        refine wpAnyH_ready (rs := [13]) (by kernel_rfl) (by simp) ?_
                        refine AllReadyH.cons rfl (fun K hK => ?_) AllReadyH.nil
                        refine step_append_eq rfl (.tmp 108) (.tmp 119) 30 rfl rfl rfl r1 ?_
                        refine hK.out _ _ HS2.out (fun hHeld => ?_)
                        clear hK K
                        try simp only [AP]
                        ((first | (refine TW 14 ?_ rfl ?_ ?_; rotate_left 1; focus (intro w h; (try dsimp only at h); first | (go_simp; done) | (go_simp; with_reducible rfl))) | refine TU 14 rfl ?_); (try simp only [AP, Nat.reduceAdd, Nat.reduceSub]))
                        refine wpAnyH_ready (rs := [15]) (by kernel_rfl) (by simp) ?_
                        refine AllReadyH.cons rfl (fun K hK => ?_) AllReadyH.nil
                        rw [if_pos (by rfl)]
                        go_simp
                        refine hK.out _ _ HS3.out (fun hHeld => ?_)
                        clear hK K
                        try simp only [AP]
                        refine wpAnyH_done (by kernel_rfl) ?_ _
                        clear hHeld
                        go_wp2_with fail
                        go_roundw
                        case rel => exact ⟨2, by omega, by go_num, HFL2⟩
                        case measure => simp [intOf]
                · have hj2 : j = 2 := by omega
                  subst hj2
                  clear hll
                  obtain ⟨AF, cF, hvF, _⟩ := RowOf.own hfl.own
                  obtain ⟨NF, hNF⟩ : ∃ n, (plV (.slice AT NT cT) (.slice AD ND cD) T D f0 f1 2).length = n := ⟨_, rfl⟩
                  rw [hNF] at hvF
                  clear hNF
                  subst hvF
                  have HFL := Lib.hid hfl
                  have hI2 := HI1.out.below hfl.kl.low HI1.out.lt
                  have hF2 := HF1.out.below hfl.kl.low HF1.out.lt
                  have HOUT := Lib.hid (link_out hI2 hF2 (keeps_of_below (fun _ => False) (HB0.out.trans ((HB1.out.trans (hfl.kl.low.mono HB1.out.size)).mono HB0.out.size))) (by rw [HP.out]; exact Nat.le_refl _) (.slice (some ⟨gR, oR, none⟩) NR cR) (.slice AF NF cF) (.int .i64 en) (.int .i64 0) (.int .i64 0))
                  have i0 : wr.cell? ⟨p, 0, none⟩ = some (.slice none 0 0) := by rw [hI2.cell]; rfl
                  have i1 : wr.cell? ⟨p, 1, none⟩ = some (.slice none 0 0) := by rw [hI2.cell]; rfl
                  have i2 : wr.cell? ⟨p, 2, none⟩ = some (.int .i64 0) := by rw [hI2.cell]; rfl
                  have l0 : wr.cell? ⟨p + 1, 0, none⟩ = some (.int .i64 0) := by rw [hF2.cell]; rfl
                  have l1 : wr.cell? ⟨p + 1, 1, none⟩ = some (.int .i64 0) := by rw [hF2.cell]; rfl
                  have fi0 := hI2.frozen 0
                  have fi1 := hI2.frozen 1
                  have fi2 := hI2.frozen 2
                  have fl0 := hF2.frozen 0
                  have fl1 := hF2.frozen 1
                  have o0 : wr.cell? ⟨o, 0, none⟩ = some (.slice (some ⟨gR, oR, none⟩) NR cR) := by rw [hfl.out.cell]; rfl
                  have o1 : wr.cell? ⟨o, 1, none⟩ = some (.slice AF NF cF) := by rw [hfl.out.cell]; rfl
                  have o2 : wr.cell? ⟨o, 2, none⟩ = some (.int .i64 en) := by rw [hfl.out.cell]; rfl
                  have hop : o ≠ p := by have := HPS.out; have := HGE.out; omega
                  have hop1 : o ≠ p + 1 := by have := HPS.out; have := HGE.out; omega
                  clear hI2 hF2 hfl
                  go_wp2_with fail
                  obtain ⟨W3, hW3, h1, h2, h3, h4⟩ := HOUT.out
                  rw [← hW3]
                  have y0 := h1.cell 0
                  have y1 := h1.cell 1
                  have y2 := h1.cell 2
                  have z0 := h2.cell 0
                  have z1 := h2.cell 1
                  refine bodyPost_ret (v := .tuple #[.agg #[.slice (some ⟨gR, oR, none⟩) NR cR, .slice AF NF cF, .int .i64 en], .agg #[.int .i64 0, .int .i64 0]]) (by simp [results, Tryz.results8, y0, y1, y2, z0, z1, go_sem]) rfl ?_
                  have HLF2 : Hid (lkF entry ex os = (0, 0)) := by
                    show _ = _
                    rw [HLF.out]
                    rfl
                  have hj : (jres os).1 = J := by rw [HJ.out]
                  refine ⟨_, by rw [HLF2.out], h3.below, fun h => absurd (by rw [HLF2.out]) h, fun _ => ⟨_, _, en, rfl, ?_, ?_, ?_, HEN.out.2⟩⟩
                  · rw [hj]
                    have hfar : ∀ g, (Value.slice (some ⟨gR, oR, none⟩) NR cR).ownBlock = some g → ¬ (g = p ∨ g = p + 1) := fun g hg e => by
                      have := own_ge HRG.out hg
                      have := HS0.out
                      omega
                    have hown : OwnG W3 W0.heap.size (.slice (some ⟨gR, oR, none⟩) NR cR) (layR J ex) := ownsRow_keeps (ownsRow_keeps HRG.out (keeps_of_below (fun i => ¬ i < w1.heap.size) (HFL.out.kl.low)) (fun g hg e => e (by obtain ⟨cur, hb⟩ := owns_kind HRG.out hg; exact hb.lt))) h4 hfar
                    exact hown.row (layR_names HE.out)
                  · have hps := HPS.out
                    have hfp : lkP ex os = (if T = [] then [] else [(f0, T)]) ++ (if D = [] then [] else [(f1, D)]) := by
                      unfold lkP
                      rw [hj, HNF.out, HNN.out.2.2, HTD.out.1, HTD.out.2, HF01.out.1, HF01.out.2]
                    rw [hfp]
                    exact fills_of (ownsRow_keeps HFL.out.kl.t h4 (fun g hg e => by have := own_ge HFL.out.kl.t hg; omega)) (ownsRow_keeps HFL.out.kl.d h4 (fun g hg e => by have := own_ge HFL.out.kl.d hg; omega)) (ownsRow_keeps HFL.out.own h4 (fun g hg e => by have := own_ge HFL.out.own hg; omega))
                  · rw [hj, HNF.out]
                    exact HEN.out.1
          · have hxs2 : (xs != 0) = true := by simpa using hxs
            have HLF2 : Hid (lkF entry ex os = (0, 4)) := by
              show _ = _
              rw [HLF.out]
              simp [hxs]
            have hI2 := HI1.out.below hlow5 HI1.out.lt
            have hF2 := HF1.out.below hlow5 HF1.out.lt
            have i0 : W5.cell? ⟨p, 0, none⟩ = some (.slice none 0 0) := by rw [hI2.cell]; rfl
            have i1 : W5.cell? ⟨p, 1, none⟩ = some (.slice none 0 0) := by rw [hI2.cell]; rfl
            have i2 : W5.cell? ⟨p, 2, none⟩ = some (.int .i64 0) := by rw [hI2.cell]; rfl
            have l0 : W5.cell? ⟨p + 1, 0, none⟩ = some (.int .i64 0) := by rw [hF2.cell]; rfl
            have l1 : W5.cell? ⟨p + 1, 1, none⟩ = some (.int .i64 0) := by rw [hF2.cell]; rfl
            have fi0 := hI2.frozen 0
            have fi1 := hI2.frozen 1
            have fi2 := hI2.frozen 2
            have fl0 := hF2.frozen 0
            have fl1 := hF2.frozen 1
            have HOUT := Lib.hid (link_out hI2 hF2 (keeps_of_below (fun _ => False) (HB0.out.trans ((HB1.out.trans (hlow5.mono HB1.out.size)).mono HB0.out.size))) (by rw [HP.out]; exact Nat.le_refl _) (.slice none 0 0) (.slice none 0 0) (.int .i64 0) (.int .i64 0) (.int .i64 4))
            clear hI2 hF2 hlow5 hb5 hW5 hs hS
            go_wp2_with fail
            obtain ⟨W3, hW3, h1, h2, h3, _⟩ := HOUT.out
            rw [← hW3]
            have y0 := h1.cell 0
            have y1 := h1.cell 1
            have y2 := h1.cell 2
            have z0 := h2.cell 0
            have z1 := h2.cell 1
            refine bodyPost_ret (v := .tuple #[.agg #[.slice none 0 0, .slice none 0 0, .int .i64 0], .agg #[.int .i64 0, .int .i64 4]]) (by simp [results, Tryz.results8, y0, y1, y2, z0, z1, go_sem]) rfl ?_
            exact ⟨_, by rw [HLF2.out], h3.below, fun _ => rfl, fun h => by rw [HLF2.out] at h; exact absurd h (by show ¬ (4 : Int) = 0; decide)⟩
  · have hf2 : (f2 != 0) = true := by simpa using hf
    go_upto_region 3 with fail
    obtain ⟨q, hq⟩ : ∃ q, w1.heap.size = q := ⟨_, rfl⟩
    obtain ⟨W2, hW2⟩ : ∃ W2, w1.alloc (.cells #[.int .i64 f1, .int .i64 f2] 34) = W2 := ⟨_, rfl⟩
    have hb2 : Below w1.heap.size w1 W2 := by rw [← hW2]; exact (Below.refl _ _).alloc (Nat.le_refl _) _
    have hQ : Blk W2 q 34 #[.int .i64 f1, .int .i64 f2] := by rw [← hW2, ← hq]; exact Blk.new w1 _ _
    have hI2 := HI1.out.below hb2 HI1.out.lt
    have hF2 := HF1.out.below hb2 HF1.out.lt
    rw [hW2, hq]
    have HOUT := Lib.hid (link_out hI2 hF2 (keeps_of_below (fun _ => False) (HB0.out.trans ((HB1.out.trans (hb2.mono HB1.out.size)).mono HB0.out.size))) (by rw [HP.out]; exact Nat.le_refl _) (.slice none 0 0) (.slice none 0 0) (.int .i64 0) (.int .i64 f1) (.int .i64 f2))
    have q0 : W2.cell? ⟨q, 0, none⟩ = some (.int .i64 f1) := by rw [hQ.cell]; rfl
    have q1 : W2.cell? ⟨q, 1, none⟩ = some (.int .i64 f2) := by rw [hQ.cell]; rfl
    have i0 : W2.cell? ⟨p, 0, none⟩ = some (.slice none 0 0) := by rw [hI2.cell]; rfl
    have i1 : W2.cell? ⟨p, 1, none⟩ = some (.slice none 0 0) := by rw [hI2.cell]; rfl
    have i2 : W2.cell? ⟨p, 2, none⟩ = some (.int .i64 0) := by rw [hI2.cell]; rfl
    have l0 : W2.cell? ⟨p + 1, 0, none⟩ = some (.int .i64 0) := by rw [hF2.cell]; rfl
    have l1 : W2.cell? ⟨p + 1, 1, none⟩ = some (.int .i64 0) := by rw [hF2.cell]; rfl
    have fi0 := hI2.frozen 0
    have fi1 := hI2.frozen 1
    have fi2 := hI2.frozen 2
    have fl0 := hF2.frozen 0
    have fl1 := hF2.frozen 1
    have hqp : q ≠ p := by have := HPS.out; omega
    have hqp1 : q ≠ p + 1 := by have := HPS.out; omega
    clear hW2 hq hb2 hQ hI2 hF2
    go_region
    all_goals
      go_wp2_with fail
      have HLF : Hid (lkF entry ex os = (f1, f2)) := by
        show _ = _
        unfold lkF
        rw [HFF.out]
        simp [hf]
      obtain ⟨W3, hW3, h1, h2, h3, _⟩ := HOUT.out
      rw [← hW3]
      have y0 := h1.drew.cell 0
      have y1 := h1.drew.cell 1
      have y2 := h1.drew.cell 2
      have z0 := h2.drew.cell 0
      have z1 := h2.drew.cell 1
      refine bodyPost_ret (v := .tuple #[.agg #[.slice none 0 0, .slice none 0 0, .int .i64 0], .agg #[.int .i64 f1, .int .i64 f2]]) (by simp [results, Tryz.results8, y0, y1, y2, z0, z1, go_sem]) rfl ?_
      exact ⟨_, by rw [HLF.out], h3.below.drew, fun _ => rfl, fun h => by rw [HLF.out] at h; exact absurd h hf⟩
end Go.Proofs.YteoglkofeogknaaGreatDoor
