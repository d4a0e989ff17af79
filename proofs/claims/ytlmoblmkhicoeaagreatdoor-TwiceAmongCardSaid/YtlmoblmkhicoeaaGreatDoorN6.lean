/- Walk: the law TwiceAmong. Conditions: the function lies, and the tables. -/
import Derived.Test.YtlmoblmkhicoeaaGreatDoorN5
set_option linter.unusedVariables false
set_option linter.unusedSimpArgs false
namespace Go.Proofs.YtlmoblmkhicoeaaGreatDoor
open Go.RowKit
def TwOk (F : Fn) (l : List Tw) : Prop := (∀ i (h : i < l.length), (l[i]).b < F.bl.length ∧ setF F (l[i]).b = true ∧ (l[i]).kp = keptF F (l[i]).b ∧ (l[i]).ri = riskF F (l[i]).b) ∧ ∀ i (h : i + 1 < l.length), (l[i]'(by omega)).b < (l[i + 1]).b
theorem setF_eq (F : Fn) (b : Nat) : setF F b = ((rchL F).getD b false && ((blk F b).x.k == 4)) := rfl
theorem OwnT.belowT {W W' : World} {B : Nat} {v : Value} {l : List Tw} (h : OwnT W B v l) (hb : Below W.heap.size W W') : OwnT W' B v l := h.below hb
theorem keptF_le {F : Fn} (hll : ∀ l ∈ liveIn F, l.length ≤ 4096 ∧ ∀ r ∈ l, 0 ≤ r ∧ r < F.rs) (b : Nat) : (keptF F b).length ≤ 4096 ∧ ∀ r ∈ keptF F b, 0 ≤ r := by
  refine ⟨Nat.le_trans (List.length_filter_le _ _) ?_, fun r hr => ?_⟩
  · rcases Nat.lt_or_ge (blk F b).x.e.toNat (liveIn F).length with h7 | h7
    · have e : (liveIn F).getD (blk F b).x.e.toNat [] = (liveIn F)[(blk F b).x.e.toNat] := by simp [h7]
      rw [e]; exact (hll _ (List.getElem_mem h7)).1
    · have e : (liveIn F).getD (blk F b).x.e.toNat [] = [] := by simp [h7]
      rw [e]; simp
  · have h5 := (kept_mem hr).1
    exact ((hll _ (getD_mem_ h5)).2 r h5).1
theorem riskF_le {F : Fn} (hll : ∀ l ∈ liveIn F, l.length ≤ 4096 ∧ ∀ r ∈ l, 0 ≤ r ∧ r < F.rs) (b : Nat) : (riskF F b).length ≤ 4096 :=
  Nat.le_trans (List.length_filter_le _ _) (keptF_le hll b).1
/-- What a round of TwiceAmong holds. -/
structure AmW (w4 : World) (gq gx : Nat) (b : Nat) (kv rv : Value) (x : Ex) (wv : Value) (l : List Int) (W : World) : Prop where
  be : Below w4.heap.size w4 W
  tq : Blk W gq 55 #[.int .i64 (b : Int), kv, rv]
  xq : Blk W gx 43 #[.int .i64 x.k, .int .i64 x.a, .int .i64 x.d, .int .i64 x.t, .int .i64 x.e]
  wi : Ints W wv l
theorem AmW.next {w4 W W' : World} {gq gx : Nat} {b : Nat} {kv rv : Value} {x : Ex} {wv : Value} {l : List Int} (h : AmW w4 gq gx b kv rv x wv l W) (hb : Below W.heap.size W W') : AmW w4 gq gx b kv rv x wv l W' :=
  ⟨h.be.trans (below_of_le hb h.be.size), h.tq.below hb h.tq.lt, h.xq.below hb h.xq.lt, h.wi.below hb⟩
theorem OwnI.intsB {W W' : World} {B : Nat} {v : Value} {l : List Int} (h : OwnI W B v l) (hb : Below W.heap.size W W') : Ints W' v l := (h.below hb).ints
set_option maxRecDepth 100000 in
set_option maxHeartbeats 16000000 in
theorem among_any (F : Fn) (sv bv : Value) (w : World) (h : FnIn w F sv bv) (ht : TzAt w) :
    Calls Tryz.prog 4 #[fnv F sv bv] w fun e w' => e = .returned (.bool true) ∧ Below w.heap.size w w' := by
  obtain ⟨A, c, rfl, h1, h2⟩ := h.bl.form
  obtain ⟨As, cs, rfl, -, -⟩ := RowOf.form h.sl
  unfold maxLen at h2
  have H0 := Lib.hid (LwW.begin h ht)
  have HWK := Lib.hid (works_any _ H0.out.fi.ke H0.out.tz)
  have HE := Lib.hid (show fnB F = false → errV F = .int .i64 180 from fun hb => by rw [errV, hb]; rfl)
  unfold fnv
  clear h ht
  go_enter Tryz.func4, Tryz.ntmps4
  go_wp2_with fail
  refine HWK.out.mono ?_
  rintro e w1 ⟨rfl, hb1⟩
  have H1 := Lib.hid (H0.out.next hb1)
  obtain ⟨x0, x1, x2, x3, x4⟩ := five H1.out.bx
  have HAN := Lib.hid (analyze_any F _ _ w1 H1.out.fi H1.out.tz)
  unfold fnv at HAN
  clear hb1 HWK
  go_wp2_with fail
  refine HAN.out.mono ?_
  rintro e w2 ⟨⟨hf0, rfl⟩ | ⟨hf, v, rfl, ho, hll⟩, hb2⟩
  · have HN := Lib.hid (H1.out.next hb2).be
    rw [HE.out hf0]
    clear hf0 hb2 HAN x0 x1 x2 x3 x4
    go_wp2_with fail
    go_ret
    exact ⟨rfl, HN.out⟩
  clear x0 x1 x2 x3 x4
  have hF := fnB_ok hf
  have HFB := Lib.hid hf
  have HF := Lib.hid hF
  have hn1 := hF.b1
  have hn2 := hF.b2
  have hr1 := hF.r1
  have HLL := Lib.hid hll
  have H2 := Lib.hid (H1.out.next hb2)
  have HT := Lib.hid ho
  obtain ⟨A2, c2, rfl, q1, q2⟩ := ho.form
  unfold maxLen at q2
  have HAL := Lib.hid (show TwOk F (anL F) from anL_ok F)
  have HAC := Lib.hid (show anL F = anN F F.bl.length from rfl)
  have han : (anL F).length ≤ F.bl.length := anN_len F _
  obtain ⟨al, hal⟩ : ∃ al, anL F = al := ⟨_, rfl⟩
  rw [hal] at HT q1 HAL HAC han ⊢
  obtain ⟨x0, x1, x2, x3, x4⟩ := five H2.out.bx
  have HLV := Lib.hid (live_any F _ _ w2 H2.out.fi H2.out.tz)
  unfold fnv at HLV
  clear hb2 ho hf hF HAN hll hal
  go_wp2_with fail
  refine HLV.out.mono ?_
  rintro e w3 ⟨⟨hf0, -⟩ | ⟨-, gI, gO, rfl, ⟨B3, hrI⟩, -, -, -⟩, hb3⟩
  · exact absurd hf0 (by rw [HFB.out]; decide)
  clear x0 x1 x2 x3 x4
  have hal := below1 w3 (.cells #[.slice (some ⟨gI, 0, none⟩) F.bl.length F.bl.length, .slice (some ⟨gO, 0, none⟩) F.bl.length F.bl.length] 48)
  have hLB := Blk.new w3 48 #[.slice (some ⟨gI, 0, none⟩) F.bl.length F.bl.length, .slice (some ⟨gO, 0, none⟩) F.bl.length F.bl.length]
  have H3 := Lib.hid ((H2.out.next hb3).next hal)
  have HT3 := Lib.hid ((HT.out.below hb3).below hal)
  have HI3 := Lib.hid (hrI.below hal)
  obtain ⟨x0, x1, x2, x3, x4⟩ := five H3.out.bx
  have HRE := Lib.hid (reached_any F _ _ _ H3.out.fi)
  unfold fnv at HRE
  have HLB := Lib.hid hLB
  clear hb3 hrI hal hLB HLV HT
  go_wp2_with fail
  refine HRE.out.mono ?_
  rintro e w4 ⟨⟨hf0, -⟩ | ⟨-, gr, rfl, hbr, -⟩, hb4⟩
  · exact absurd hf0 (by rw [HFB.out]; decide)
  clear x0 x1 x2 x3 x4
  have H4 := Lib.hid (H3.out.next hb4)
  have HT4 := Lib.hid (HT3.out.below hb4)
  have HI4 := Lib.hid (HI3.out.below hb4)
  have HR4 := Lib.hid hbr
  have hlb := HLB.out.below hb4 HLB.out.lt
  obtain ⟨gl, hgl⟩ : ∃ gl, w3.heap.size = gl := ⟨_, rfl⟩
  rw [hgl] at hlb
  try rw [hgl]
  have HL4 := Lib.hid hlb
  have y0 := (hlb.cell 0).trans rfl
  obtain ⟨x0, x1, x2, x3, x4⟩ := five H4.out.bx
  clear hb4 hbr hlb hgl HRE HLB HT3 HI3
  go_wp2_with fail
  go_loopw [67, 8] (fun i n wr => ∃ k : Nat, k ≤ F.bl.length ∧ i = .int .i64 k ∧ n = .int .i64 ((anN F k).length : Nat) ∧ Hid (Below w4.heap.size w4 wr)) (fun i _ _ => F.bl.length - (intOf i).toNat)
  case atStart => exact ⟨0, Nat.zero_le _, rfl, rfl, Below.refl _ _⟩
  case round =>
    clear y0 x0 x1 x2 x3 x4
    obtain ⟨k, hk, rfl, rfl, HB⟩ := hrel
    by_cases hlt : k < F.bl.length
    · obtain ⟨x0, x1, x2, x3, x4⟩ := five (H4.out.next HB.out).bx
      have hstep := anN_step (F := F) k
      rw [setF_eq] at hstep
      have hle := anN_len F k
      obtain ⟨rb, hrb, y1⟩ := (HR4.out.below HB.out).val k (by rw [HF.out.rch.1]; exact hlt)
      obtain ⟨gb, ob, cb, eb, -, -, -, hbc⟩ := (H4.out.next HB.out).fi.bl.open_ (Nat.lt_of_le_of_lt (Nat.zero_le _) hlt)
      cases eb
      obtain ⟨ov, hbc⟩ := hbc _ hlt
      have t1 := hbc.c1
      rw [← blk_at_ hlt] at t1
      rw [hrb] at hstep
      obtain ⟨xk, hxk⟩ : ∃ xk, (blk F k).x.k = xk := ⟨_, rfl⟩
      rw [hxk] at t1 hstep
      obtain ⟨n0, hn0⟩ : ∃ n0, (anN F k).length = n0 := ⟨_, rfl⟩
      obtain ⟨n1, hn1'⟩ : ∃ n1, (anN F (k + 1)).length = n1 := ⟨_, rfl⟩
      rw [hn0] at hle
      rw [hn0, hn1'] at hstep
      rw [hn0]
      have HN1 := Lib.hid hn1'
      have HST := Lib.hid hstep
      have HBB := Lib.hid HB.out
      clear hbc hxk hn0 hn1' hstep hrb HB
      cases rb with
      | false =>
        have HN := Lib.hid (show n1 = n0 from by have := HST.out; simpa using this)
        clear HST
        go_wp2_with fail
        go_roundw
        case rel => exact ⟨k + 1, by omega, by go_num, by rw [HN1.out, HN.out], HBB.out⟩
        case measure => simp [intOf]; omega
      | true =>
        cases h4 : (xk == 4) with
        | false =>
          have HN := Lib.hid (show n1 = n0 from by have := HST.out; rw [h4] at this; simpa using this)
          clear HST
          go_wp2_with fail
          go_roundw
          case rel => exact ⟨k + 1, by omega, by go_num, by rw [HN1.out, HN.out], HBB.out⟩
          case measure => simp [intOf]; omega
        | true =>
          have HN := Lib.hid (show n1 = n0 + 1 from by have := HST.out; rw [h4] at this; simpa using this)
          clear HST
          go_wp2_with fail
          go_roundw
          case rel => exact ⟨k + 1, by omega, by go_num, by rw [HN1.out, HN.out]; go_num, HBB.out⟩
          case measure => simp [intOf]; omega
    · have hke : k = F.bl.length := by omega
      subst hke
      rw [← HAC.out]
      have HB5 := Lib.hid HB.out
      obtain ⟨NA, hNA⟩ : ∃ n, al.length = n := ⟨_, rfl⟩
      have HNA := Lib.hid hNA
      rw [hNA] at q1 han ⊢
      clear HB hNA
      go_wp2_with fail
      go_loopw [93] (fun i wr => ∃ k : Nat, k ≤ NA ∧ i = .int .i64 k ∧ Hid (Below w4.heap.size w4 wr)) (fun i _ => NA - (intOf i).toNat)
      case atStart => exact ⟨0, Nat.zero_le _, rfl, HB5.out⟩
      case round =>
        clear HB5
        obtain ⟨k, hk, rfl, HB⟩ := hrel
        by_cases hlt : k < NA
        · have hkl : k < al.length := by rw [HNA.out]; exact hlt
          obtain ⟨gs, cs', ea, -, -, -, hci⟩ := HT4.out.cells (Nat.lt_of_le_of_lt (Nat.zero_le _) hkl)
          cases ea
          have hcw : ∀ {p : Addr} {v : Value}, w4.cell? p = some v → wr.cell? p = some v := fun {p v} hp => (HB.out.cell (p := p) (cell_lt hp)).trans hp
          obtain ⟨kv, rv, s0, s1, s2, hkv, hrv⟩ := hci k hkl
          have s0 := hcw s0
          have s1 := hcw s1
          have s2 := hcw s2
          obtain ⟨ab, aset, akp, ari⟩ := HAL.out.1 k hkl
          obtain ⟨Ak, ck, rfl, -, -⟩ := hkv.form
          obtain ⟨Ar, cr, rfl, -, -⟩ := hrv.form
          have hprev : ∀ k', k = k' + 1 → ∃ pb : Nat, w4.cell? ⟨gs, k' * 3, none⟩ = some (.int .i64 (pb : Int)) ∧ pb < al[k].b := by
            rintro k' rfl
            obtain ⟨_, _, a0, -, -, -, -⟩ := hci k' (by omega)
            exact ⟨_, a0, HAL.out.2 k' hkl⟩
          obtain ⟨kl, hkle⟩ : ∃ kl, al[k].kp = kl := ⟨_, rfl⟩
          obtain ⟨rl, hrle⟩ : ∃ rl, al[k].ri = rl := ⟨_, rfl⟩
          rw [hkle] at s1 hkv akp
          rw [hrle] at s2 hrv ari
          obtain ⟨b, hbe⟩ : ∃ b, al[k].b = b := ⟨_, rfl⟩
          rw [hbe] at s0 hprev ab aset akp ari
          obtain ⟨hrb, hx4⟩ := setF_k aset
          obtain ⟨⟨e1, e2⟩, -, -⟩ := set_ok HF.out ab hx4
          obtain ⟨en, hen⟩ : ∃ en : Nat, (blk F b).x.e = (en : Int) := ⟨(blk F b).x.e.toNat, by omega⟩
          have henl : en < F.bl.length := by omega
          obtain ⟨hkl1, hkl2⟩ := keptF_le HLL.out b
          have hrl1 := riskF_le HLL.out b
          have HKR := Lib.hid (show ∀ r ∈ kl, ((liveIn F).getD en []).contains r = true ∧ (r == (blk F b).x.d) = false ∧ ∃ cb, rl.contains r = cb ∧ (ixs (btL F b)).contains r = cb from fun r hr => by
            rw [akp] at hr
            have h5 := kept_live hr
            rw [hen] at h5
            refine ⟨h5.1, by simpa using h5.2, _, rfl, ?_⟩
            rw [ari, ← risk_same hr (hkl2 r hr)])
          have HRR := Lib.hid (show ∀ r ∈ rl, kl.contains r = true from fun r hr => by
            rw [ari] at hr
            rw [akp]; exact risk_kept hr)
          rw [← akp] at hkl1
          rw [← ari] at hrl1
          have H5 := Lib.hid (H4.out.next HB.out)
          obtain ⟨gb, ob, cb, eb, -, -, -, hbc⟩ := H4.out.fi.bl.open_ (Nat.lt_of_le_of_lt (Nat.zero_le _) ab)
          cases eb
          obtain ⟨ov, hbc⟩ := hbc _ ab
          rw [← blk_at_ ab] at hbc
          obtain ⟨t0, t1, t2, t3, t4, t5, -⟩ := hbc
          rw [hx4] at t1
          rw [hen] at t5
          obtain ⟨xa, hxa⟩ : ∃ x, (blk F b).x.a = x := ⟨_, rfl⟩
          obtain ⟨xd, hxd⟩ : ∃ x, (blk F b).x.d = x := ⟨_, rfl⟩
          obtain ⟨xt, hxt⟩ : ∃ x, (blk F b).x.t = x := ⟨_, rfl⟩
          rw [hxa] at t2
          rw [hxd] at t3 HKR
          rw [hxt] at t4
          have hll4 : ((liveIn F).getD en []).length ≤ 4096 := by
            have : en < (liveIn F).length := by rw [liveIn_len]; exact henl
            have e : (liveIn F).getD en [] = (liveIn F)[en] := by simp [this]
            rw [e]; exact (HLL.out _ (List.getElem_mem this)).1
          obtain ⟨gIr, oIr, cIr, Al, cl, eI, -, -, y1, hyl, -, -⟩ := row_ (HI4.out.to (liveIn_len F) (by unfold maxLen; omega)) (liveIn_len F) henl
          cases eI
          rw [Nat.zero_add] at y1
          obtain ⟨ll, hll⟩ : ∃ ll, (liveIn F).getD en [] = ll := ⟨_, rfl⟩
          rw [hll] at y1 hyl hll4 HKR
          have HYL := Lib.hid hyl
          have hwl := ixs_btL HF.out b
          have hal := below1 wr (.cells #[.int .i64 (b : Int), .slice Ak kl.length ck, .slice Ar rl.length cr] 55)
          have H6 := Lib.hid (H5.out.next hal)
          have HTQ := Lib.hid (And.intro (Blk.new wr 55 #[.int .i64 (b : Int), .slice Ak kl.length ck, .slice Ar rl.length cr]) (HB.out.trans (below_of_le hal HB.out.size)))
          obtain ⟨x0, x1, x2, x3, x4⟩ := five H6.out.bx
          have HBT := Lib.hid (Between_any F _ _ _ H6.out.fi H6.out.tz b ab aset HFB.out)
          unfold fnv at HBT
          have HPV := Lib.hid hprev
          have HKV := Lib.hid (And.intro hkv hrv)
          have HTC := Lib.hid (And.intro t0 (And.intro t1 (And.intro t2 (And.intro t3 (And.intro t4 t5)))))
          have HY1 := Lib.hid y1
          clear hci hcw hkv hrv hprev hkle hrle hbe hrb hx4 e1 e2 hkl2 t0 t1 t2 t3 t4 t5 y1 hyl hll hal HB akp ari aset hen hxa hxd hxt
          go_wp2_with fail
          refine HBT.out.mono ?_
          rintro e w5 ⟨⟨wv, rfl, how⟩, hb5⟩
          clear x0 x1 x2 x3 x4
          obtain ⟨Aw, cw, rfl, -, -⟩ := how.form
          obtain ⟨wl, hwle⟩ : ∃ wl, ixs (btL F b) = wl := ⟨_, rfl⟩
          rw [hwle] at how HKR hwl ⊢
          have H7 := Lib.hid (H6.out.next hb5)
          obtain ⟨x0, x1, x2, x3, x4⟩ := five H7.out.bx
          have tq := HTQ.out.1.below hb5 HTQ.out.1.lt
          have hbq : Below w4.heap.size w4 w5 := HTQ.out.2.trans (below_of_le hb5 HTQ.out.2.size)
          obtain ⟨gq, hgq⟩ : ∃ gq, wr.heap.size = gq := ⟨_, rfl⟩
          rw [hgq] at tq
          try rw [hgq]
          have hcw : ∀ {p : Addr} {v : Value}, w4.cell? p = some v → w5.cell? p = some v := fun {p v} hp => (hbq.cell (p := p) (cell_lt hp)).trans hp
          obtain ⟨t0, t1, t2, t3, t4, t5⟩ := HTC.out
          have t1 := hcw t1
          have t2 := hcw t2
          have t3 := hcw t3
          have t4 := hcw t4
          have t5 := hcw t5
          have r0 := (tq.cell 0).trans rfl
          have x4' := fun q => (show (w5.drewN q).cell? ⟨w.heap.size, 4, none⟩ = _ from x4)
          have r0' := fun q => (show (w5.drewN q).cell? ⟨gq, 0, none⟩ = some (.int .i64 (b : Int)) from r0)
          have t1' := fun q => (show (w5.drewN q).cell? ⟨gb, ob + b * 6 + 1, none⟩ = _ from t1)
          have t2' := fun q => (show (w5.drewN q).cell? ⟨gb, ob + b * 6 + 2, none⟩ = _ from t2)
          have t3' := fun q => (show (w5.drewN q).cell? ⟨gb, ob + b * 6 + 3, none⟩ = _ from t3)
          have t4' := fun q => (show (w5.drewN q).cell? ⟨gb, ob + b * 6 + 4, none⟩ = _ from t4)
          have t5' := fun q => (show (w5.drewN q).cell? ⟨gb, ob + b * 6 + 5, none⟩ = _ from t5)
          have d1 : decide ((b : Int) < 0) = false := by simp
          have d2 : decide ((F.bl.length : Int) ≤ (b : Int)) = false := by simp; omega
          have HAM := Lib.hid (show ∀ q, AmW w4 gq (w5.drewN q).heap.size b (.slice Ak kl.length ck) (.slice Ar rl.length cr) ⟨4, xa, xd, xt, (en : Int)⟩ (.slice Aw wl.length cw) wl ((w5.drewN q).alloc (.cells #[.int .i64 4, .int .i64 xa, .int .i64 xd, .int .i64 xt, .int .i64 (en : Int)] 43)) from fun q =>
            ⟨(below_dN hbq q).alloc hbq.size _, Blk.alloc (show Blk (w5.drewN q) gq _ _ from tq) _, Blk.new (w5.drewN q) _ _, (how.ints.below (below_dN (Below.refl _ _) q)).below (below1 _ _)⟩)
          have hbi : (b : Int) < (F.bl.length : Int) := by omega
          have hprev : 0 < k → ∃ (k' pb : Nat), (k : Int) - 1 = (k' : Int) ∧ (k' : Int) < (NA : Int) ∧ (∀ q, (w5.drewN q).cell? ⟨gs, k' * 3, none⟩ = some (.int .i64 (pb : Int))) ∧ pb < b := fun hk0 => by
            obtain ⟨pb, a0, a1⟩ := HPV.out (k - 1) (by omega)
            exact ⟨k - 1, pb, by omega, by omega, fun q => hcw a0, a1⟩
          clear hb5 how hwle hgq tq hbq hcw HTQ HTC HBT
          rcases Nat.eq_zero_or_pos k with hk0 | hk0
          case' inl =>
            have d3 : decide ((0 : Int) < (k : Int)) = false := by rw [hk0]; simp
            have d3' : decide (0 < k) = false := by rw [hk0]; simp
            have d3'' : ¬ 0 < k := by omega
            have d2' : decide (F.bl.length ≤ b) = false := by simp; omega
            clear hk0 hprev
            go_wp2_with fail
            go_quiet (fail)
            obtain ⟨W1, hW1⟩ : ∃ W1, w5.drewN nq = W1 := ⟨_, rfl⟩
            have e0 := x4' nq
            have e1 := r0' nq
            have f1 := t1' nq
            have f2 := t2' nq
            have f3 := t3' nq
            have f4 := t4' nq
            have f5 := t5' nq
            have ham := HAM.out nq
            rw [hW1] at e0 e1 f1 f2 f3 f4 f5 ham ⊢
            have HAM2 := Lib.hid ham
            clear hW1 ham d3 d3' d3'' d2' d1 d2 x0 x1 x2 x3 x4 r0 t1 t2 t3 t4 t5 x4' r0' t1' t2' t3' t4' t5'
          case' inr =>
            have d3 : decide ((0 : Int) < (k : Int)) = true := by simp; exact hk0
            have d3' : decide (0 < k) = true := by simp; exact hk0
            have d2' : decide (F.bl.length ≤ b) = false := by simp; omega
            obtain ⟨k', pb, hk1, hkl, p0, hpb⟩ := hprev hk0
            have d4 : decide ((b : Int) ≤ (pb : Int)) = false := by simp; omega
            have d4' : decide (b ≤ pb) = false := by simp; omega
            clear hk0 hprev hpb
            go_wp2_with fail
            go_quiet (fail)
            obtain ⟨W1, hW1⟩ : ∃ W1, w5.drewN nq = W1 := ⟨_, rfl⟩
            have e0 := x4' nq
            have e1 := r0' nq
            have f1 := t1' nq
            have f2 := t2' nq
            have f3 := t3' nq
            have f4 := t4' nq
            have f5 := t5' nq
            have ham := HAM.out nq
            rw [hW1] at e0 e1 f1 f2 f3 f4 f5 ham ⊢
            have HAM2 := Lib.hid ham
            clear hW1 ham d3 d3' d2' d4 d4' p0 hk1 hkl d1 d2 x0 x1 x2 x3 x4 r0 t1 t2 t3 t4 t5 x4' r0' t1' t2' t3' t4' t5'
          all_goals
            obtain ⟨gx, hgx⟩ : ∃ gx, W1.heap.size = gx := ⟨_, rfl⟩
            have ham := HAM2.out
            have c1 := (ham.tq.cell 1).trans rfl
            rw [hgx] at ham
            have HA2 := Lib.hid ham
            clear ham HAM2
            go_wp2_with fail
            try rw [hgx]
            clear e0 e1 f1 f2 f3 f4 f5 c1 hgx
            go_loopw [156] (fun i wr => ∃ j : Nat, j ≤ kl.length ∧ i = .int .i64 j ∧ Hid (AmW w4 gq gx b (.slice Ak kl.length ck) (.slice Ar rl.length cr) ⟨4, xa, xd, xt, (en : Int)⟩ (.slice Aw wl.length cw) wl wr)) (fun i _ => kl.length - (intOf i).toNat)
            case atStart => exact ⟨0, Nat.zero_le _, rfl, HA2.out⟩
            case round =>
              clear HA2
              obtain ⟨j, hj, rfl, HA⟩ := hrel
              by_cases hjt : j < kl.length
              · have hbw := HA.out.be
                obtain ⟨gi, oi, ci, ea, -, -, -, hci⟩ := (HKV.out.1.intsB hbw).open_ (Nat.lt_of_le_of_lt (Nat.zero_le _) hjt)
                have HK2 := Lib.hid (And.intro HKV.out.2 hbw)
                cases ea
                have y := hci j hjt
                obtain ⟨h1', h2', cb, h3', h4'⟩ := HKR.out _ (List.getElem_mem hjt)
                obtain ⟨r, hre⟩ : ∃ r, kl[j] = r := ⟨_, rfl⟩
                rw [hre] at y h1' h2' h3' h4'
                have z0 := (hbw.cell (p := ⟨gl, 0, none⟩) HL4.out.lt).trans ((HL4.out.cell 0).trans rfl)
                have z1 := (hbw.cell (p := ⟨gI, en, none⟩) (cell_lt HY1.out)).trans HY1.out
                have z2 := (HA.out.xq.cell 2).trans rfl
                have z4 := (HA.out.xq.cell 4).trans rfl
                have hel : (en : Int) < (F.bl.length : Int) := by omega
                have HH1 := Lib.hid (has_any ll (.slice Al ll.length cl) r wr (HYL.out.below hbw) (by omega))
                rw [h1'] at HH1
                have HR34 := Lib.hid (And.intro h3' h4')
                clear hci hre h1' h3' h4' hbw
                go_wp2_with fail
                refine HH1.out.mono ?_
                rintro e w7 ⟨rfl, hb7⟩
                have HA7 := Lib.hid (HA.out.next hb7)
                have q2 := (HA7.out.tq.cell 2).trans rfl
                have q3 := (HA7.out.xq.cell 2).trans rfl
                have HH2 := Lib.hid (has_any rl (.slice Ar rl.length cr) r w7 (HKV.out.2.intsB HA7.out.be) (by omega))
                rw [HR34.out.1] at HH2
                clear hb7 HH1 HA z0 z1 z2 z4 y
                go_wp2_with fail
                refine HH2.out.mono ?_
                rintro e w8 ⟨rfl, hb8⟩
                have HA8 := Lib.hid (HA7.out.next hb8)
                have HH3 := Lib.hid (has_any wl (.slice Aw wl.length cw) r w8 HA8.out.wi (by omega))
                rw [HR34.out.2] at HH3
                clear hb8 HH2 HA7 q2 q3
                go_wp2_with fail
                refine HH3.out.mono ?_
                rintro e w9 ⟨rfl, hb9⟩
                have HA9 := Lib.hid (HA8.out.next hb9)
                clear hb9 HH3 HA8
                go_wp2_with fail
                go_roundw
                case rel => exact ⟨j + 1, by omega, by go_num, HA9.out⟩
                case measure => simp [intOf]; omega
              · have q2 := (HA.out.tq.cell 2).trans rfl
                have HA2 := Lib.hid HA.out
                clear HA
                go_wp2_with fail
                clear q2
                go_loopw [189] (fun i wr => ∃ j : Nat, j ≤ rl.length ∧ i = .int .i64 j ∧ Hid (AmW w4 gq gx b (.slice Ak kl.length ck) (.slice Ar rl.length cr) ⟨4, xa, xd, xt, (en : Int)⟩ (.slice Aw wl.length cw) wl wr)) (fun i _ => rl.length - (intOf i).toNat)
                case atStart => exact ⟨0, Nat.zero_le _, rfl, HA2.out⟩
                case round =>
                  clear HA2
                  obtain ⟨m, hm, rfl, HA⟩ := hrel
                  by_cases hmt : m < rl.length
                  · obtain ⟨gi, oi, ci, ea, -, -, -, hci⟩ := (HKV.out.2.intsB HA.out.be).open_ (Nat.lt_of_le_of_lt (Nat.zero_le _) hmt)
                    cases ea
                    have y := hci m hmt
                    have hr := HRR.out _ (List.getElem_mem hmt)
                    obtain ⟨r, hre⟩ : ∃ r, rl[m] = r := ⟨_, rfl⟩
                    rw [hre] at y hr
                    have q1' := (HA.out.tq.cell 1).trans rfl
                    have HH1 := Lib.hid (has_any kl (.slice Ak kl.length ck) r wr (HKV.out.1.intsB HA.out.be) (by omega))
                    rw [hr] at HH1
                    clear hci hre hr
                    go_wp2_with fail
                    refine HH1.out.mono ?_
                    rintro e w7 ⟨rfl, hb7⟩
                    have HA7 := Lib.hid (HA.out.next hb7)
                    clear hb7 HH1 HA q1' y
                    go_wp2_with fail
                    go_roundw
                    case rel => exact ⟨m + 1, by omega, by go_num, HA7.out⟩
                    case measure => simp [intOf]; omega
                  · have HN := Lib.hid HA.out.be
                    clear HA
                    go_wp2_with fail
                    go_roundw
                    case rel => exact ⟨k + 1, by omega, by go_num, HN.out⟩
                    case measure => simp [intOf]; omega
        · have HN := Lib.hid HB.out
          clear HB
          go_wp2_with fail
          go_ret
          exact ⟨rfl, H4.out.be.trans (below_of_le HN.out H4.out.be.size)⟩
end Go.Proofs.YtlmoblmkhicoeaaGreatDoor
