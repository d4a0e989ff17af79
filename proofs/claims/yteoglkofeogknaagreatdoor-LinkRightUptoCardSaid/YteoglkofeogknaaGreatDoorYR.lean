/- Plain and walk: a fill's bytes are its section's but at the relocations; the law LinkRight. Conditions: what each theorem states. -/
import Derived.Test.YteoglkofeogknaaGreatDoorYK
import Derived.Test.YteoglkofeogknaaGreatDoorYW
set_option linter.unusedVariables false
set_option linter.unusedSimpArgs false
namespace Go.Proofs.YteoglkofeogknaaGreatDoor
open Go.RowKit
/-- A fill is of section s: its bytes are b's but at the relocations. -/
structure FO (J : Ob) (ex : List Rng) (f : Int × List UInt8) (s : Nat) (b : List UInt8) : Prop where
  sec : (s = 0 ∧ b = J.tx ∧ f.1 = ((layR J ex).getD 0 default).fr ∧ J.tx ≠ []) ∨ (s = 1 ∧ b = J.dt ∧ f.1 = ((layR J ex).getD 1 default).fr ∧ (f.1 ≠ ((layR J ex).getD 0 default).fr ∨ J.tx = []))
  len : f.2.length = b.length
  far : ∀ k : Nat, (∀ x ∈ J.rl, x.sec = (s : Int) → (k : Int) < x.at_ ∨ x.at_ + 4 ≤ (k : Int)) → f.2[k]? = b[k]?
theorem fo_of {J : Ob} {ex : List Rng} {os : List Ob} {f3 : Int} (hJ : jres os = (J, f3, 0)) {f : Int × List UInt8} (hf : f ∈ lkP ex os) : ∃ s b, FO J ex f s b := by
  have hin := jres_in hJ
  unfold lkP at hf
  rw [hJ] at hf
  obtain ⟨l1, l2⟩ := lkS_len (F := NF J (layR J ex)) hin J.rl.length (Nat.le_refl _)
  have hfar := lkS_far (F := NF J (layR J ex)) hin J.rl.length (Nat.le_refl _)
  rcases List.mem_append.1 hf with hf | hf
  · split at hf
    · cases hf
    · rename_i hne
      obtain rfl := List.mem_singleton.1 hf
      refine ⟨0, J.tx, Or.inl ⟨rfl, rfl, rfl, fun e => hne ?_⟩, l1, fun k hk => (hfar k).1 hk⟩
      rw [e] at l1
      exact List.length_eq_zero_iff.1 (by simpa using l1)
  · split at hf
    · cases hf
    · rename_i hne
      obtain rfl := List.mem_singleton.1 hf
      refine ⟨1, J.dt, Or.inr ⟨rfl, rfl, rfl, ?_⟩, l2, fun k hk => (hfar k).2 hk⟩
      by_cases ht : J.tx = []
      · exact Or.inr ht
      · refine Or.inl ?_
        rw [layR_0, layR_1]
        have h0 : 0 < J.tx.length := List.length_pos_iff.2 ht
        dsimp only
        unfold upI
        omega
/-- What emu.Check asks of the fills. -/
theorem fill_in {J : Ob} {ex : List Rng} {f : Int × List UInt8} {s : Nat} {b : List UInt8} (h : FO J ex f s b) (hx : ∀ r ∈ layR J ex, r.Ok) (hb : layBad J ex = false) (hx0 : ∀ r ∈ ex, 0 ≤ r.sz) : 0 ≤ f.1 ∧ f.1 ≤ 4294967296 ∧ f.2.length ≤ 1048576 ∧ (layR J ex).any (inB f.1 f.2.length) = true := by
  have hlen := layR_len J ex
  have h0 : (layR J ex)[0]'(by omega) = ⟨textS, 4096, upI J.tx.length, false, true⟩ := by
    have := layR_0 J ex
    rwa [show (layR J ex).getD 0 default = (layR J ex)[0]'(by omega) from by simp [List.getD, show 0 < (layR J ex).length by omega]] at this
  have h1 : (layR J ex)[1]'(by omega) = ⟨dataS, 4096 + upI J.tx.length, upI J.dt.length, true, false⟩ := by
    have := layR_1 J ex
    rwa [show (layR J ex).getD 1 default = (layR J ex)[1]'(by omega) from by simp [List.getD, show 1 < (layR J ex).length by omega]] at this
  have b0 := layR_in hx0 hb _ (List.getElem_mem (l := layR J ex) (n := 0) (by omega))
  have b1 := layR_in hx0 hb _ (List.getElem_mem (l := layR J ex) (n := 1) (by omega))
  rw [h0] at b0
  rw [h1] at b1
  dsimp only at b0 b1
  have u0 := upI_le (n := (J.tx.length : Int)) (by omega)
  have u1 := upI_le (n := (J.dt.length : Int)) (by omega)
  have hl := h.len
  rcases h.sec with ⟨_, rfl, e, _⟩ | ⟨_, rfl, e, _⟩
  · rw [layR_0] at e
    dsimp only at e
    refine ⟨by omega, by omega, by omega, List.any_eq_true.2 ⟨_, List.getElem_mem (l := layR J ex) (n := 0) (by omega), ?_⟩⟩
    rw [h0]
    unfold inB
    dsimp only
    simp
    omega
  · rw [layR_1] at e
    dsimp only at e
    refine ⟨by omega, by omega, by omega, List.any_eq_true.2 ⟨_, List.getElem_mem (l := layR J ex) (n := 1) (by omega), ?_⟩⟩
    rw [h1]
    unfold inB
    dsimp only
    simp
    omega
theorem tk4 {b : List UInt8} {k : Nat} (h : k + 4 ≤ b.length) : ((b.drop k).take 4).length = 4 := by simp; omega
/-- The bytes behind j relocations of section s put back. -/
def rsS (J : Ob) (s : Nat) (b B : List UInt8) : Nat → List UInt8
  | 0 => B
  | j + 1 => if (J.rl.getD j default).sec = (s : Int) then set4 (rsS J s b B j) (J.rl.getD j default).at_.toNat ((b.drop (J.rl.getD j default).at_.toNat).take 4) else rsS J s b B j
theorem sec_at {J : Ob} {ex : List Rng} {f : Int × List UInt8} {s : Nat} {b : List UInt8} (h : FO J ex f s b) (hin : ∀ x ∈ J.rl, RelIn J x) {j : Nat} (hj : j < J.rl.length) (hs : (J.rl.getD j default).sec = (s : Int)) : 0 ≤ (J.rl.getD j default).at_ ∧ (J.rl.getD j default).at_.toNat + 4 ≤ b.length := by
  have e : J.rl.getD j default = J.rl[j] := by simp [List.getD, hj]
  rw [e] at hs ⊢
  obtain ⟨_, _, a3, a4, _⟩ := hin _ (List.getElem_mem hj)
  unfold Ob.sec at a4
  rcases h.sec with ⟨rfl, rfl, _⟩ | ⟨rfl, rfl, _⟩
  · rw [if_pos (by omega)] at a4
    omega
  · rw [if_neg (by omega)] at a4
    omega
theorem rsS_len {J : Ob} {ex : List Rng} {f : Int × List UInt8} {s : Nat} {b : List UInt8} (h : FO J ex f s b) (hin : ∀ x ∈ J.rl, RelIn J x) : ∀ j, j ≤ J.rl.length → (rsS J s b f.2 j).length = b.length
  | 0, _ => h.len
  | j + 1, hj => by
    have ih := rsS_len h hin j (by omega)
    show (if (J.rl.getD j default).sec = (s : Int) then _ else _ : List UInt8).length = _
    by_cases hs : (J.rl.getD j default).sec = (s : Int)
    · rw [if_pos hs]
      have := sec_at h hin (j := j) (by omega) hs
      rw [set4_len (by omega) (tk4 this.2)]
      exact ih
    · rw [if_neg hs]
      exact ih
theorem set4_near {bs q : List UInt8} {k i : Nat} (hk : k + 4 ≤ bs.length) (hq : q.length = 4) (hi : i < 4) : (set4 bs k q)[k + i]? = q[i]? := by
  unfold set4
  rw [List.append_assoc, List.getElem?_append_right (by simp; omega), List.getElem?_append_left (by simp; omega)]
  congr 1
  simp
  omega
theorem rsS_far {J : Ob} {ex : List Rng} {f : Int × List UInt8} {s : Nat} {b : List UInt8} (h : FO J ex f s b) (hin : ∀ x ∈ J.rl, RelIn J x) : ∀ j, j ≤ J.rl.length → ∀ k : Nat, (∀ x ∈ J.rl.drop j, x.sec = (s : Int) → (k : Int) < x.at_ ∨ x.at_ + 4 ≤ (k : Int)) → (rsS J s b f.2 j)[k]? = b[k]?
  | 0, _, k, hk => h.far k (by simpa using hk)
  | j + 1, hj, k, hk => by
    have hl := rsS_len h hin j (by omega)
    have ih := rsS_far h hin j (by omega) k
    have e : J.rl.getD j default = J.rl[j] := by simp [List.getD, show j < J.rl.length by omega]
    have hd : J.rl.drop j = J.rl[j] :: J.rl.drop (j + 1) := List.drop_eq_getElem_cons (by omega)
    rw [hd] at ih
    show (if (J.rl.getD j default).sec = (s : Int) then _ else _ : List UInt8)[k]? = _
    by_cases hs : (J.rl.getD j default).sec = (s : Int)
    · rw [if_pos hs]
      obtain ⟨a1, a2⟩ := sec_at h hin (j := j) (by omega) hs
      rw [e] at a1 a2 ⊢
      by_cases hin4 : J.rl[j].at_.toNat ≤ k ∧ k < J.rl[j].at_.toNat + 4
      · obtain ⟨i, hi⟩ : ∃ i, k = J.rl[j].at_.toNat + i := ⟨k - J.rl[j].at_.toNat, by omega⟩
        rw [hi, set4_near (by omega) (tk4 a2) (by omega), List.getElem?_take, if_pos (by omega), List.getElem?_drop]
      · rw [set4_far (by omega) (tk4 a2) (by omega)]
        refine ih fun x hx hxs => ?_
        rcases List.mem_cons.1 hx with rfl | hx
        · omega
        · exact hk x hx hxs
    · rw [if_neg hs]
      refine ih fun x hx hxs => ?_
      rcases List.mem_cons.1 hx with rfl | hx
      · exact absurd hxs (by rw [← e]; exact hs)
      · exact hk x hx hxs
theorem rsS_end {J : Ob} {ex : List Rng} {f : Int × List UInt8} {s : Nat} {b : List UInt8} (h : FO J ex f s b) (hin : ∀ x ∈ J.rl, RelIn J x) : rsS J s b f.2 J.rl.length = b :=
  List.ext_getElem? fun k => rsS_far h hin _ (Nat.le_refl _) k (by simp)
/-- A piece of a row of bytes. -/
theorem Bys.piece {W : World} {g off n cap : Nat} {b : List UInt8} (h : Bys W (.slice (some ⟨g, off, none⟩) n cap) b) {k : Nat} (hk : k + 4 ≤ b.length) : Bys W (.slice (some ⟨g, off + k, none⟩) 4 (cap - k)) ((b.drop k).take 4) := by
  obtain ⟨A, c, e, h1, h2, h3⟩ := h
  simp only [Value.slice.injEq] at e
  obtain ⟨rfl, rfl, rfl⟩ := e
  obtain ⟨g', o', e, hg, hc⟩ := h3 (by omega)
  simp only [Option.some.injEq, Addr.mk.injEq, and_true] at e
  obtain ⟨rfl, rfl⟩ := e
  have hl := tk4 hk
  refine ⟨_, cap - k, by rw [hl], by omega, by omega, fun _ => ⟨g, off + k, rfl, hg, fun j u hj => ?_⟩⟩
  have hj4 : j < 4 := by have := (List.getElem?_eq_some_iff.1 hj).1; rw [List.length_map, hl] at this; exact this
  rw [Nat.add_assoc]
  refine hc (k + j) u ?_
  rw [List.map_take, List.map_drop, List.getElem?_take, if_pos hj4, List.getElem?_drop] at hj
  exact hj
end Go.Proofs.YteoglkofeogknaaGreatDoor
set_option linter.unusedVariables false
set_option linter.unusedSimpArgs false
namespace Go.Proofs.YteoglkofeogknaaGreatDoor
open Go.RowKit
set_option maxRecDepth 100000 in
set_option maxHeartbeats 4000000 in
theorem right_any (entry : ByteArray) (vX v : Value) (ex : List Rng) (os : List Ob) (w : World) (hX : RSlice w vX ex) (h : OsAt w v os) (ho : OpsAt w) (h0 : 0 < w.heap.size) (hnm : ∀ o ∈ os, NmOK o) (hN : os.length ≤ 1073741824) (hB : ∀ k, k ≤ os.length → SzOK (joinO (os.take k))) (hxl : ex.length ≤ 4194304) (hen : entry.size ≤ maxLen) :
    Calls Tryz.prog 4 #[.string entry, vX, v] w fun e w' => e = .returned (.bool true) ∧ Below w.heap.size w w' := by
  have HX := Lib.hid hX
  have HOS := Lib.hid h
  have HO := Lib.hid ho
  have H0 := Lib.hid h0
  have HNM := Lib.hid hnm
  have HSZ := Lib.hid hB
  obtain ⟨AX, cX, rfl, hcX, hcXm, _⟩ := hX
  obtain ⟨AO, cO, rfl, _, _⟩ := h.form
  have HW := Lib.hid (works_any w ho h0)
  obtain ⟨NX, hNX⟩ : ∃ n, ex.length = n := ⟨_, rfl⟩
  have HNX := Lib.hid hNX
  obtain ⟨NO, hNO⟩ : ∃ n, os.length = n := ⟨_, rfl⟩
  have HNO := Lib.hid hNO
  rw [hNX] at hxl hcX ⊢
  rw [hNO] at hN ⊢
  rw [hNX] at HX
  rw [hNO] at HOS
  clear ho h0 hnm hB h hNX hNO
  go_enter Tryz.func4, Tryz.ntmps4
  go_wp2_with fail
  refine HW.out.mono ?_
  rintro e w1 ⟨rfl, hb1⟩
  have HB1 := Lib.hid hb1
  have HX1 := Lib.hid (HX.out.below hb1)
  have HO1 := Lib.hid (HOS.out.below hb1)
  have HLK := Lib.hid (link_any entry _ _ ex os w1 HX1.out HO1.out (HO.out.below H0.out hb1) (Nat.lt_of_lt_of_le H0.out hb1.size) HNM.out (by rw [HNO.out]; exact hN) HSZ.out (by rw [HNX.out]; exact hxl) hen)
  clear hb1 HW
  go_wp2_with fail
  refine HLK.out.mono ?_
  rintro e w2 ⟨im, rfl, hb2, him1, him2⟩
  have HB2 := Lib.hid (HB1.out.trans (hb2.mono HB1.out.size))
  clear HLK hb2
  dsimp only
  by_cases hc : (lkF entry ex os).2 = 0
  · obtain ⟨vR, vF, en, rfl, hR, hF, _, hen0, hen1⟩ := him2 hc
    clear him1 him2
    rw [hc]
    generalize (lkF entry ex os).1 = fi
    have HR := Lib.hid hR
    have HF := Lib.hid hF
    obtain ⟨AR, cR, rfl, _, hcR, _⟩ := hR
    obtain ⟨AF, cF, rfl, _, hcF, _⟩ := hF
    obtain ⟨NR, hNR⟩ : ∃ n, (layR (jres os).1 ex).length = n := ⟨_, rfl⟩
    have HNR := Lib.hid hNR
    obtain ⟨NF, hNF⟩ : ∃ n, (lkP ex os).length = n := ⟨_, rfl⟩
    have HNF := Lib.hid hNF
    rw [hNR] at HR
    rw [hNF] at HF
    rw [hNR, hNF]
    clear hNR hNF
    obtain ⟨o, ho⟩ : ∃ o, w2.heap.size = o := ⟨_, rfl⟩
    go_upto_region 4 with fail
    obtain ⟨W3, hW3⟩ : ∃ W3, (w2.alloc (.cells #[.slice AR NR cR, .slice AF NF cF, .int .i64 en] 32)).alloc (.cells #[.int .i64 fi, .int .i64 0] 34) = W3 := ⟨_, rfl⟩
    have hb3 : Below w2.heap.size w2 W3 := by rw [← hW3]; exact ((Below.refl _ _).alloc (Nat.le_refl _) _).alloc (by simp) _
    have hI3 : Blk W3 o 32 #[.slice AR NR cR, .slice AF NF cF, .int .i64 en] := by rw [← hW3, ← ho]; exact (Blk.new w2 _ _).alloc _
    have hF3 : Blk W3 (o + 1) 34 #[.int .i64 fi, .int .i64 0] := by rw [← hW3, ← ho]; exact blk_at (by simp) _ _
    have HI3 := Lib.hid hI3
    have HB3 := Lib.hid (HB2.out.trans (hb3.mono HB2.out.size))
    have HR3 := Lib.hid (HR.out.below hb3)
    have HF3 := Lib.hid (HF.out.below hb3)
    have y1 : W3.cell? ⟨o + 1, 1, none⟩ = some (.int .i64 0) := by rw [hF3.cell]; rfl
    have HO3 := Lib.hid (HOS.out.below HB3.out)
    have HJ := Lib.hid (join_any _ os W3 HO3.out (HO.out.below H0.out HB3.out) (Nat.lt_of_lt_of_le H0.out HB3.out.size) HNM.out (by rw [HNO.out]; exact hN) HSZ.out)
    try rw [hW3]
    try rw [ho]
    clear hb3 hI3 hF3 hW3 ho
    go_wp2_with fail
    clear y1
    refine HJ.out.mono ?_
    rintro e w4 ⟨A1, n1, c1, k1, z2, z3, z4, rfl, hob, hb4, _, _⟩
    obtain ⟨⟨J, f3, f4⟩, hJ⟩ : ∃ r, jres os = r := ⟨_, rfl⟩
    obtain ⟨s1, hst⟩ : ∃ r, (stF ex os).1 = r := ⟨_, rfl⟩
    have hst2 : (stF ex os).2 = 0 := by
      unfold lkF at hc
      by_cases hz : (stF ex os).2 = 0
      · exact hz
      · rw [if_pos hz] at hc; exact absurd hc hz
    have hst3 : stF ex os = (s1, 0) := by rw [← hst, ← hst2]
    have hf4 : f4 = 0 := by
      unfold stF at hst2
      rw [hJ] at hst2
      by_cases hz : f4 = 0
      · exact hz
      · rw [if_pos hz] at hst2; exact absurd hst2 hz
    subst hf4
    have HJR := Lib.hid hJ
    have HST := Lib.hid hst3
    rw [hJ] at hob HNR HR3 ⊢
    clear hJ hst hst2 hst3 hc HJ HR HF
    dsimp only at hob HNR HR3 ⊢
    obtain ⟨A1', c1', e1, l1⟩ := Bys.form hob.tx
    injection e1 with ea1 ea2 ea3
    subst ea1 ea2 ea3
    obtain ⟨A2, c2, rfl, l2⟩ := Bys.form hob.dt
    obtain ⟨A3, c3, rfl, _, _⟩ := hob.lb.form
    obtain ⟨A4, c4, rfl, l4, l4m⟩ := hob.rl.form
    obtain ⟨ob, hob0⟩ : ∃ o, w4.heap.size = o := ⟨_, rfl⟩
    go_upto_region 7 with fail
    obtain ⟨W5, hW5⟩ : ∃ W5, (w4.alloc (.cells #[.slice A1 J.tx.length c1, .slice A2 J.dt.length c2, .slice A3 J.lb.length c3, .slice A4 J.rl.length c4] 41)).alloc (.cells #[.int .i64 f3, .int .i64 0] 34) = W5 := ⟨_, rfl⟩
    have hb5 : Below w4.heap.size w4 W5 := by rw [← hW5]; exact ((Below.refl _ _).alloc (Nat.le_refl _) _).alloc (by simp) _
    have hO5 : Blk W5 ob 41 #[.slice A1 J.tx.length c1, .slice A2 J.dt.length c2, .slice A3 J.lb.length c3, .slice A4 J.rl.length c4] := by rw [← hW5, ← hob0]; exact (Blk.new w4 _ _).alloc _
    have hG5 : Blk W5 (ob + 1) 34 #[.int .i64 f3, .int .i64 0] := by rw [← hW5, ← hob0]; exact blk_at (by simp) _ _
    have hb35 : Below W3.heap.size W3 W5 := hb4.trans (hb5.mono hb4.size)
    have HB5 := Lib.hid (HB3.out.trans (hb35.mono HB3.out.size))
    have HI5 := Lib.hid (HI3.out.below hb35 HI3.out.lt)
    have HR5 := Lib.hid (HR3.out.below hb35)
    have HF5 := Lib.hid (HF3.out.below hb35)
    have HOB5 := Lib.hid (hob.below hb5)
    have HO5 := Lib.hid hO5
    have g1 : W5.cell? ⟨ob + 1, 1, none⟩ = some (.int .i64 0) := by rw [hG5.cell]; rfl
    have x0 : W5.cell? ⟨o, 0, none⟩ = some (.slice AR NR cR) := by rw [HI5.out.cell]; rfl
    have x1 : W5.cell? ⟨o, 1, none⟩ = some (.slice AF NF cF) := by rw [HI5.out.cell]; rfl
    have x2 : W5.cell? ⟨o, 2, none⟩ = some (.int .i64 en) := by rw [HI5.out.cell]; rfl
    obtain ⟨hE, hBad, hs1⟩ := stF_zero HJR.out HST.out
    obtain ⟨hchk, hok⟩ := chk_layR hE hBad
    have hsz := ex_sizes hE
    have hfo : ∀ f ∈ lkP ex os, ∃ s b, FO J ex f s b ∧ f.2.length ≤ 1048576 := fun f hf => by
      obtain ⟨s, b, hfs⟩ := fo_of HJR.out hf
      exact ⟨s, b, hfs, (fill_in hfs hok hBad (fun r hr => (hsz r hr).1)).2.2.1⟩
    have HFO := Lib.hid hfo
    have hNR2 : NR = NX + 2 := by rw [← HNR.out, ← HNX.out]; exact layR_len J ex
    have hNF16 : (lkP ex os).length ≤ 2 := by
      unfold lkP
      rw [List.length_append]
      split <;> split <;> simp
    have hCH := Lib.hid (echeck_ok _ _ (layR J ex) (lkP ex os) en W5 HR5.out HF5.out hchk (by omega) ⟨hen0, by omega⟩ (sumZ_layR hBad) hok (by have := layBad_sum hBad; have := layR_len J ex; omega) (fun f hf => by
      obtain ⟨s, b, hfs, _⟩ := hfo f hf
      exact fill_in hfs hok hBad (fun r hr => (hsz r hr).1)))
    rw [HNF.out] at hNF16
    have HNF2 := Lib.hid hNF16
    have HNR2 := Lib.hid hNR2
    have e7 : IntKind.i64.wrap (2 + (NX : Int)) = (NR : Int) := by rw [IntWalk.i64_in _ (by omega)]; omega
    have HB45 := Lib.hid hb35
    try rw [hW5]
    try rw [hob0]
    clear hb5 hO5 hG5 hb35 hW5 hob0 hob hb4 HI3 HR3 HF3 HO3 hE hBad hs1 hchk hok hsz hfo hNF16 hNR2
    go_wp2_with fail
    clear g1 x0 x1 x2 e7
    refine hCH.out.mono ?_
    rintro e w6 ⟨rfl, hb6⟩
    have HB6 := Lib.hid (HB5.out.trans (hb6.mono HB5.out.size))
    have HI6 := Lib.hid (HI5.out.below hb6 HI5.out.lt)
    have HO6 := Lib.hid (HO5.out.below hb6 HO5.out.lt)
    have HR6 := Lib.hid (HR5.out.below hb6)
    have HF6 := Lib.hid (HF5.out.below hb6)
    have HOB6 := Lib.hid (HOB5.out.below hb6)
    have x0 : w6.cell? ⟨o, 0, none⟩ = some (.slice AR NR cR) := by rw [HI6.out.cell]; rfl
    have x1 : w6.cell? ⟨o, 1, none⟩ = some (.slice AF NF cF) := by rw [HI6.out.cell]; rfl
    have e7 : IntKind.i64.wrap (2 + (NX : Int)) = (NR : Int) := by have := HNR2.out; rw [IntWalk.i64_in _ (by omega)]; omega
    clear hb6 hCH HI5 HO5 HR5 HF5 HOB5
    go_wp2_with fail
    clear x0 x1 e7
    have HIN := Lib.hid (jres_in HJR.out)
    obtain ⟨TX, hTX⟩ : ∃ n, J.tx.length = n := ⟨_, rfl⟩
    obtain ⟨DT, hDT⟩ : ∃ n, J.dt.length = n := ⟨_, rfl⟩
    obtain ⟨LB, hLB⟩ : ∃ n, J.lb.length = n := ⟨_, rfl⟩
    obtain ⟨RL, hRL⟩ : ∃ n, J.rl.length = n := ⟨_, rfl⟩
    have HTX := Lib.hid hTX
    have HDT := Lib.hid hDT
    have HRL := Lib.hid hRL
    rw [hTX] at l1 HOB6 HO6 ⊢
    rw [hDT] at l2 HOB6 HO6 ⊢
    rw [hLB] at HOB6 HO6 ⊢
    rw [hRL] at l4 HOB6 HO6 ⊢
    clear hTX hDT hLB hRL
    have hgR : ∃ gR oR, AR = some ⟨gR, oR, none⟩ ∧ gR < w6.heap.size ∧ RCells w6 gR oR (layR J ex) := by
      obtain ⟨_, _, ea, _, _, _, hcR⟩ := HR6.out
      injection ea with ea1 ea2 ea3
      subst ea1
      exact hcR (by intro e; have h1 := layR_len J ex; rw [e] at h1; simp at h1)
    obtain ⟨gR, oR, rfl, hgR, hRR⟩ := hgR
    obtain ⟨fr0, hfr0⟩ : ∃ z, ((layR J ex).getD 0 default).fr = z := ⟨_, rfl⟩
    obtain ⟨fr1, hfr1⟩ : ∃ z, ((layR J ex).getD 1 default).fr = z := ⟨_, rfl⟩
    have HFR0 := Lib.hid hfr0
    have HFR1 := Lib.hid hfr1
    have hrc : w6.cell? ⟨gR, oR + 1, none⟩ = some (.int .i64 fr0) ∧ w6.cell? ⟨gR, oR + 5 + 1, none⟩ = some (.int .i64 fr1) := by
      have hl := layR_len J ex
      obtain ⟨_, a, _⟩ := hRR.five (i := 0) (by omega)
      obtain ⟨_, b, _⟩ := hRR.five (i := 1) (by omega)
      rw [show (layR J ex)[0]'(by omega) = (layR J ex).getD 0 default from by simp [List.getD, show 0 < (layR J ex).length by omega], hfr0] at a
      rw [show (layR J ex)[1]'(by omega) = (layR J ex).getD 1 default from by simp [List.getD, show 1 < (layR J ex).length by omega], hfr1] at b
      exact ⟨by simpa using a, by simpa using b⟩
    have HRC := Lib.hid hrc
    have HGR := Lib.hid hgR
    clear hrc hgR hRR hfr0 hfr1
    go_loopw [63] (fun kv W => ∃ k : Nat, k ≤ NF ∧ kv = .int .i64 k ∧ Hid (Below w6.heap.size w6 W)) (fun kv _ => NF - (intOf kv).toNat)
    case atStart => exact ⟨0, Nat.zero_le _, rfl, Lib.hid (Below.refl _ _)⟩
    case round =>
      obtain ⟨k, hk, rfl, HB⟩ := hrel
      by_cases hlt : k < NF
      · as_aux_lemma =>
        obtain ⟨A', c', ea, _, _, hcc⟩ := HF6.out
        injection ea with ea1 ea2 ea3
        subst ea1
        clear ea2 ea3
        have hkl : k < (lkP ex os).length := by rw [HNF.out]; exact hlt
        obtain ⟨g, off, rfl, hg, hcc⟩ := hcc (by omega)
        obtain ⟨f0, bv, f1, hbv⟩ := hcc k hkl
        obtain ⟨s, b, hfs, hlen⟩ := HFO.out _ (List.getElem_mem hkl)
        replace f0 := (HB.out.cell (p := ⟨g, off + k * 2, none⟩) hg).trans f0
        replace f1 := (HB.out.cell (p := ⟨g, off + k * 2 + 1, none⟩) hg).trans f1
        replace hbv := RowOf.below hbv HB.out
        obtain ⟨fl, hfl⟩ : ∃ z, (lkP ex os)[k] = z := ⟨_, rfl⟩
        rw [hfl] at f0 hfs hbv hlen
        have HFS := Lib.hid hfs
        have hsec := hfs.sec
        have hblen := hfs.len
        obtain ⟨at_, bs⟩ := fl
        dsimp only at f0 f1 hbv hblen hsec hlen
        have HLEN := Lib.hid hlen
        clear hlen
        rw [HFR0.out, HFR1.out] at hsec
        have HBV : Hid (Bys wr bv bs) := Lib.hid hbv
        obtain ⟨A2', c2', rfl, hc2, hc2m, _⟩ := hbv
        obtain ⟨nb, hnb⟩ : ∃ z, bs.length = z := ⟨_, rfl⟩
        have HNB := Lib.hid hnb
        rw [hnb] at f1 hblen hc2 HBV
        have e3 : (k : Int) < (NF : Int) := by omega
        have e5 : (0 : Int) ≤ (k : Int) := by omega
        have e6 : IntKind.i64.wrap ((k : Int) + 1) = ((k + 1 : Nat) : Int) := by have := HNF2.out; rw [IntWalk.i64_in _ (by omega)]; omega
        have HBL := Lib.hid hblen
        clear hfl hnb hcc hfs hblen
        obtain ⟨q, hq⟩ : ∃ q, wr.heap.size = q := ⟨_, rfl⟩
        go_upto_region 12 with fail
        obtain ⟨W7, hW7⟩ : ∃ W7, wr.alloc (.cells #[.int .i64 at_, .slice A2' nb c2'] 46) = W7 := ⟨_, rfl⟩
        have hb7 : Below wr.heap.size wr W7 := by rw [← hW7]; exact (Below.refl _ _).alloc (Nat.le_refl _) _
        have hQ7 : Blk W7 q 46 #[.int .i64 at_, .slice A2' nb c2'] := by rw [← hW7, ← hq]; exact Blk.new wr _ _
        have hb67 : Below w6.heap.size w6 W7 := HB.out.trans (hb7.mono HB.out.size)
        have hI7 := HI6.out.below hb67 HI6.out.lt
        have hO7 := HO6.out.below hb67 HO6.out.lt
        have HOB7 := Lib.hid (HOB6.out.below hb67)
        have HBV7 := Lib.hid (RowOf.below HBV.out hb7)
        have HB7 := Lib.hid hb67
        have HQ7 := Lib.hid hQ7
        have HO7 := Lib.hid hO7
        have q0 : W7.cell? ⟨q, 0, none⟩ = some (.int .i64 at_) := by rw [hQ7.cell]; rfl
        have q1 : W7.cell? ⟨q, 1, none⟩ = some (.slice A2' nb c2') := by rw [hQ7.cell]; rfl
        have x0 : W7.cell? ⟨o, 0, none⟩ = some (.slice (some ⟨gR, oR, none⟩) NR cR) := by rw [hI7.cell]; rfl
        have o0 : W7.cell? ⟨ob, 0, none⟩ = some (.slice A1 TX c1) := by rw [hO7.cell]; rfl
        have o1 : W7.cell? ⟨ob, 1, none⟩ = some (.slice A2 DT c2) := by rw [hO7.cell]; rfl
        have o3 : W7.cell? ⟨ob, 3, none⟩ = some (.slice A4 RL c4) := by rw [hO7.cell]; rfl
        have r0 : W7.cell? ⟨gR, oR + 1, none⟩ = some (.int .i64 fr0) := (hb67.cell (p := ⟨gR, oR + 1, none⟩) HGR.out).trans HRC.out.1
        have r1 : W7.cell? ⟨gR, oR + 5 + 1, none⟩ = some (.int .i64 fr1) := (hb67.cell (p := ⟨gR, oR + 5 + 1, none⟩) HGR.out).trans HRC.out.2
        have k0 : (0 : Int) < (NR : Int) := by have := HNR2.out; omega
        have k1 : (1 : Int) < (NR : Int) := by have := HNR2.out; omega
        rw [hW7]
        try rw [hq]
        have hrs : W7.cell? ⟨gR, oR + s * 5 + 1, none⟩ = some (.int .i64 at_) := by
          rcases hsec with ⟨rfl, _, h1, _⟩ | ⟨rfl, _, h1, _⟩
          · rw [h1]; exact r0
          · rw [h1]; exact r1
        have hs01 : s = 0 ∨ s = 1 := by
          rcases hsec with ⟨h, _⟩ | ⟨h, _⟩
          · exact Or.inl h
          · exact Or.inr h
        have HRS := Lib.hid hrs
        have HS01 := Lib.hid hs01
        clear hW7 hq hb7 hQ7 hb67 hI7 hO7 f0 f1 hrs hs01
        go_region
        go_upto_region 13 with fail
        go_cut [82] from 69 to 82 (fun c W => c = .bool (decide (s = 1)) ∧ W = W7.drew.drew)
        case first =>
          rcases hsec with ⟨rfl, rfl, h1, h2⟩ | ⟨rfl, rfl, h1, h2⟩
          · subst h1
            have hz : ¬ (TX : Int) = 0 := by have := HTX.out; intro e; exact h2 (List.length_eq_zero_iff.1 (by omega))
            have hz2 : ((TX : Int) == 0) = false := by simpa using hz
            go_region
            all_goals
              go_wp2_with fail
              go_meet
              case rel => exact ⟨rfl, rfl⟩
          · by_cases hne : at_ = fr0
            · have hz : TX = 0 := by have := HTX.out; rw [← this]; exact List.length_eq_zero_iff.2 (h2.resolve_left (fun h => h hne))
              subst hne
              have hz2 : ((TX : Int) == 0) = true := by simpa using hz
              clear hz h1
              go_region
              all_goals
                go_wp2_with fail
                go_meet
                case rel => exact ⟨rfl, rfl⟩
            · clear h1
              have hne2 : (at_ != fr0) = true := by simpa using hne
              have hne3 : (at_ == fr0) = false := by simpa using hne
              have hne4 : decide (at_ = fr0) = false := by simpa using hne
              have hne5 : decide (¬ at_ = fr0) = true := by simpa using hne
              have hne6 : (!decide (at_ = fr0)) = true := by simpa using hne
              have hne7 : (!(at_ == fr0)) = true := by simpa using hne
              go_region
              all_goals
                go_wp2_with fail
                go_meet
                case rel => exact ⟨rfl, rfl⟩
        case rest =>
          obtain ⟨rfl, rfl⟩ := hcut
          go_upto_if 82 with fail
          obtain ⟨sb, hsb⟩ : ∃ sb, decide (s = 1) = sb := ⟨_, rfl⟩
          have HSB := Lib.hid hsb
          rw [hsb]
          clear hsb
          go_cut [13, 14] from 83 to 84 (fun a c W => a = .int .i64 (s : Int) ∧ (∃ Ab cb, c = .slice Ab nb cb ∧ Hid (Bys W7 c b)) ∧ Hid (Below W7.heap.size W7 W))
          case first =>
            rcases hsec with ⟨rfl, rfl, h1, h2⟩ | ⟨rfl, rfl, h1, h2⟩
            · obtain rfl : sb = false := by rw [← HSB.out]; rfl
              clear h1 h2
              go_wp2_with fail
              go_meet
              case rel => exact ⟨rfl, ⟨A1, c1, by rw [HBL.out, HTX.out], Lib.hid HOB7.out.tx⟩, Lib.hid (by repeat (first | exact Below.refl _ _ | refine Below.drew ?_))⟩
            · obtain rfl : sb = true := by rw [← HSB.out]; rfl
              clear h1 h2
              go_wp2_with fail
              go_region
              go_wp2_with fail
              go_meet
              case rel => exact ⟨rfl, ⟨A2, c2, by rw [HBL.out, HDT.out], Lib.hid HOB7.out.dt⟩, Lib.hid (by repeat (first | exact Below.refl _ _ | refine Below.drew ?_))⟩
          case rest =>
            obtain ⟨rfl, ⟨Ab, cb, rfl, HBB⟩, HBW⟩ := hcut
            have hb6w : Below w6.heap.size w6 wc := HB7.out.trans (HBW.out.mono HB7.out.size)
            have HB6W := Lib.hid hb6w
            have HOC := Lib.hid (HO7.out.below HBW.out HO7.out.lt)
            have HBVC := Lib.hid (RowOf.below HBV7.out HBW.out)
            have HBBC := Lib.hid (RowOf.below HBB.out HBW.out)
            have HRLC := Lib.hid (HOB7.out.below HBW.out).rl
            have hqc := HQ7.out.below HBW.out HQ7.out.lt
            have hic := HI6.out.below hb6w HI6.out.lt
            clear q0 q1 x0 o0 o1 o3 r0 r1 k0 k1 hsec
            have q0 : wc.cell? ⟨q, 0, none⟩ = some (.int .i64 at_) := by rw [hqc.cell]; rfl
            have q1 : wc.cell? ⟨q, 1, none⟩ = some (.slice A2' nb c2') := by rw [hqc.cell]; rfl
            have x0 : wc.cell? ⟨o, 0, none⟩ = some (.slice (some ⟨gR, oR, none⟩) NR cR) := by rw [hic.cell]; rfl
            have r0 : wc.cell? ⟨gR, oR + s * 5 + 1, none⟩ = some (.int .i64 at_) := (HBW.out.cell (p := ⟨gR, oR + s * 5 + 1, none⟩) (Nat.lt_of_lt_of_le HGR.out HB7.out.size)).trans HRS.out
            have k0 : (0 : Int) ≤ (s : Int) := by omega
            have k1 : (s : Int) < (NR : Int) := by have := HNR2.out; have := HS01.out; omega
            clear hqc hic hb6w
            go_wp2_with fail
            go_region
            go_wp2_with fail
            refine (bytes_any _ bs _ (RowOf.below HBVC.out (by repeat (first | exact Below.refl _ _ | refine Below.drew ?_))) (by have := HLEN.out; omega)).mono ?_
            rintro e w9 ⟨vO, rfl, hown, hb9⟩
            clear q0 q1 x0 r0 k0 k1
            have HB9 : Hid (Below wc.heap.size wc w9) := Lib.hid (Below.trans (b := wc.drew) (by repeat (first | exact Below.refl _ _ | refine Below.drew ?_)) hb9)
            have HOWN : Hid (OwnB w9 wc.heap.size vO bs) := Lib.hid hown
            clear hb9
            obtain ⟨AO', cO', rfl, hcO, hcOm⟩ := slice_form hown
            clear hown
            rw [HNB.out] at hcO ⊢
            have o3 : w9.cell? ⟨ob, 3, none⟩ = some (.slice A4 RL c4) := by rw [(HOC.out.below HB9.out HOC.out.lt).cell]; rfl
            go_wp2_with fail
            clear o3
            rw [HNB.out] at HOWN
            go_loopw [108] (fun jv W => ∃ j : Nat, j ≤ RL ∧ jv = .int .i64 j ∧ Hid (OwnB W wc.heap.size (.slice AO' nb cO') (rsS J s b bs j)) ∧ Hid (Below wc.heap.size wc W)) (fun jv _ => RL - (intOf jv).toNat)
            case atStart => exact ⟨0, Nat.zero_le _, rfl, HOWN, HB9⟩
            case round =>
              obtain ⟨j, hj, rfl, HW1, HW2⟩ := hrel
              by_cases hlt2 : j < RL
              · as_aux_lemma =>
                have hjl : j < J.rl.length := by rw [HRL.out]; exact hlt2
                obtain ⟨gl, ol, rfl, hgl, hcl⟩ := HRLC.out.at_ (by omega)
                obtain ⟨m0, m1, m2, m3, m4⟩ := hcl j hjl
                replace m0 := (HW2.out.cell (p := ⟨gl, ol + j * 5, none⟩) hgl).trans m0
                replace m1 := (HW2.out.cell (p := ⟨gl, ol + j * 5 + 1, none⟩) hgl).trans m1
                replace m2 := (HW2.out.cell (p := ⟨gl, ol + j * 5 + 2, none⟩) hgl).trans m2
                replace m3 := (HW2.out.cell (p := ⟨gl, ol + j * 5 + 3, none⟩) hgl).trans m3
                replace m4 := (HW2.out.cell (p := ⟨gl, ol + j * 5 + 4, none⟩) hgl).trans m4
                have hsecat := sec_at HFS.out HIN.out hjl
                have hrl := rsS_len HFS.out HIN.out j (by omega)
                have hstep : rsS J s b bs (j + 1) = if (J.rl.getD j default).sec = (s : Int) then set4 (rsS J s b bs j) (J.rl.getD j default).at_.toNat ((b.drop (J.rl.getD j default).at_.toNat).take 4) else rsS J s b bs j := rfl
                obtain ⟨⟨xs, xa, xk, xd, xn⟩, hx⟩ : ∃ x, J.rl.getD j default = x := ⟨_, rfl⟩
                rw [hx] at m0 m1 m2 m3 m4 hsecat hstep
                dsimp only at m0 m1 m2 m3 m4 hsecat hstep
                dsimp only at hrl
                obtain ⟨R, hR⟩ : ∃ R, rsS J s b bs j = R := ⟨_, rfl⟩
                rw [hR] at HW1 hrl hstep
                have HST2 := Lib.hid hstep
                rw [← HBL.out] at hsecat hrl
                have hnb1 : nb ≤ 1048576 := by rw [← HNB.out]; exact HLEN.out
                have hRLm : RL ≤ 9223372036854775807 := by have := l4m; unfold maxLen at this; omega
                have e3 : (j : Int) < (RL : Int) := by omega
                have e5 : (0 : Int) ≤ (j : Int) := by omega
                have e6 : IntKind.i64.wrap ((j : Int) + 1) = ((j + 1 : Nat) : Int) := by rw [IntWalk.i64_in _ (by omega)]; omega
                clear hR hstep hx hcl
                obtain ⟨qb, hqb⟩ : ∃ q, wr.heap.size = q := ⟨_, rfl⟩
                go_upto_region 21 with fail
                obtain ⟨WB, hWB⟩ : ∃ W, wr.alloc (.cells #[.int .i64 xs, .int .i64 xa, .int .i64 xk, .int .i64 xd, .string xn] 51) = W := ⟨_, rfl⟩
                have hbB : Below wr.heap.size wr WB := by rw [← hWB]; exact (Below.refl _ _).alloc (Nat.le_refl _) _
                have hQB : Blk WB qb 51 #[.int .i64 xs, .int .i64 xa, .int .i64 xk, .int .i64 xd, .string xn] := by rw [← hWB, ← hqb]; exact Blk.new wr _ _
                have n0 : WB.cell? ⟨qb, 0, none⟩ = some (.int .i64 xs) := by rw [hQB.cell]; rfl
                have n1 : WB.cell? ⟨qb, 1, none⟩ = some (.int .i64 xa) := by rw [hQB.cell]; rfl
                have HBB2 : Hid (Below wc.heap.size wc WB) := Lib.hid (HW2.out.trans (hbB.mono HW2.out.size))
                have HOB2 : Hid (OwnB WB wc.heap.size (.slice AO' nb cO') R) := Lib.hid (ownsRow_keeps HW1.out (keeps_of_below (fun _ => False) hbB) (fun _ _ => id))
                rw [hWB]
                try rw [hqb]
                clear hWB hqb hbB hQB m0 m1 m2 m3 m4
                by_cases hs : xs = (s : Int)
                · obtain ⟨a0, a1⟩ := hsecat hs
                  obtain ⟨a, rfl⟩ : ∃ a : Nat, xa = (a : Int) := ⟨xa.toNat, by omega⟩
                  simp only [Int.toNat_natCast] at a1
                  have HST3 : Hid (rsS J s b bs (j + 1) = set4 R a ((b.drop a).take 4)) := Lib.hid (by rw [HST2.out, if_pos hs, Int.toNat_natCast])
                  subst hs
                  have hob : OwnB WB wc.heap.size (.slice AO' nb cO') R := HOB2.out
                  obtain ⟨g2, rfl, hg2⟩ : ∃ g2, AO' = some ⟨g2, 0, none⟩ ∧ wc.heap.size ≤ g2 := by
                    rcases hob.2 with h0 | ⟨g2, c, cur, hv, hb, _⟩
                    · have h1 := hob.1
                      simp at h0
                      omega
                    · simp only [Value.slice.injEq] at hv
                      exact ⟨g2, hv.1, hb⟩
                  have hbb := RowOf.below HBBC.out HBB2.out
                  obtain ⟨Ab2, cb2, eb, hcb, hcbm, hbc⟩ := hbb
                  simp only [Value.slice.injEq] at eb
                  obtain ⟨rfl, eb2, rfl⟩ := eb
                  obtain ⟨gb, ob2, rfl, _, _⟩ := hbc (by omega)
                  have hpc := Bys.piece (k := a) (show Bys WB (.slice (some ⟨gb, ob2, none⟩) nb cb) b from RowOf.below HBBC.out HBB2.out) (by omega)
                  have hpd := RowOf.below hpc (Below.refl _ _).drew
                  have hod : OwnB WB.drew wc.heap.size (.slice (some ⟨g2, 0, none⟩) nb cO') R := ownsRow_keeps hob (keeps_of_below (fun _ => False) (Below.refl _ _).drew) (fun _ _ => id)
                  obtain ⟨w2, hcp, ho2, hk2⟩ := copy4 hod (k := a) (by omega) hpd (tk4 (by omega))
                  have HO2 : Hid (OwnB w2 wc.heap.size (.slice (some ⟨g2, 0, none⟩) nb cO') (rsS J s b bs (j + 1))) := Lib.hid (by rw [HST3.out]; exact ho2)
                  have HB2' : Hid (Below wc.heap.size wc w2) := Lib.hid ((HBB2.out.drew).trans (hk2.low (fun i hi e => by omega) (by show _ ≤ WB.heap.size; exact HBB2.out.size)))
                  have hcO1 := hcO
                  have e8 : IntKind.i64.wrap ((a : Int) + 4) = ((a + 4 : Nat) : Int) := by rw [IntWalk.i64_in _ (by omega)]; omega
                  have e9 : ¬ (nb : Int) < ((a + 4 : Nat) : Int) := by omega
                  have e10 : ((a + 4 : Nat) : Int) ≤ (nb : Int) := by omega
                  have b1 : (0 : Int) ≤ (a : Int) := by omega
                  have b0 : ¬ (a : Int) < 0 := by omega
                  have b2 : (a : Int) ≤ ((a + 4 : Nat) : Int) := by omega
                  have b3 : ((a + 4 : Nat) : Int) ≤ (cO' : Int) := by omega
                  have b4 : ((a + 4 : Nat) : Int) ≤ (cb : Int) := by omega
                  clear hpc hpd hod ho2 hk2 hob hbc hcb hcbm eb2 hcO1
                  go_wp2_with fail
                  go_region
                  go_wp2_with fail
                  go_roundw
                  case rel => exact ⟨j + 1, by omega, by go_num, HO2, HB2'⟩
                  case measure => simp [intOf]; omega
                · have HST3 : Hid (rsS J s b bs (j + 1) = R) := Lib.hid (by rw [HST2.out, if_neg hs])
                  go_wp2_with fail
                  go_roundw
                  case rel => exact ⟨j + 1, by omega, by go_num, Lib.hid (by rw [HST3.out]; exact HOB2.out), HBB2⟩
                  case measure => simp [intOf]; omega
              · have hjN : j = RL := by omega
                subst hjN
                have hend : rsS J s b bs j = b := by have := rsS_end HFS.out HIN.out; rw [HRL.out] at this; exact this
                rw [hend] at HW1
                clear hend
                go_wp2_with fail
                refine (same_any _ _ b b _ (RowOf.own HW1.out) (RowOf.below HBBC.out HW2.out)).mono ?_
                rintro e w10 ⟨rfl, hb10⟩
                rw [decide_eq_true (rfl : b = b)]
                have HB10 : Hid (Below w6.heap.size w6 w10) := Lib.hid (HB6W.out.trans ((HW2.out.trans (hb10.mono HW2.out.size)).mono HB6W.out.size))
                clear hb10 HW1 HW2
                go_wp2_with fail
                go_roundw
                case rel => exact ⟨k + 1, by omega, by go_num, HB10⟩
                case measure => simp [intOf]; omega
      · have hkN : k = NF := by omega
        subst hkN
        have HBF := Lib.hid (HB6.out.trans (HB.out.mono HB6.out.size))
        clear HB
        go_wp2_with fail
        go_ret
        exact ⟨rfl, HBF.out⟩
  · rw [him1 hc]
    generalize (lkF entry ex os).2 = fc at hc ⊢
    generalize (lkF entry ex os).1 = fi
    clear him1 him2
    go_wp2_with fail
    go_ret
    exact ⟨by rfl, (HB2.out.alloc HB2.out.size _).alloc (Nat.le_trans HB2.out.size (by simp)) _⟩
end Go.Proofs.YteoglkofeogknaaGreatDoor
