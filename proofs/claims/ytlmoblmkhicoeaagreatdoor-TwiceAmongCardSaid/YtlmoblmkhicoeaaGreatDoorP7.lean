/- Walks: (*lives).second. Conditions: what lies where. What found keeps: laws. No conditions. Plain: sets of registers grow, and hold registers alone. No conditions. -/
import Derived.Test.YtlmoblmkhicoeaaGreatDoorF5
import Derived.Test.YtlmoblmkhicoeaaGreatDoorF8
import Derived.Test.YtlmoblmkhicoeaaGreatDoorF7
set_option linter.unusedVariables false
set_option linter.unusedSimpArgs false
namespace Go.Proofs.YtlmoblmkhicoeaaGreatDoor
open Go.RowKit
set_option maxRecDepth 100000 in
set_option maxHeartbeats 4000000 in
theorem second_any (gl gg : Nat) (F : Fn) (sv bv tov : Value) (gr : Nat) (inv : Value) (gs : List Nat) (ins : List (List Nat)) (w : World) (h : LvAt w gl gg F sv bv tov gr inv gs ins) :
    Calls Tryz.prog 44 #[.pointer (some ⟨gl, 0, none⟩)] w fun e w' => (∃ g, e = .returned (.pointer (some ⟨g, 0, none⟩)) ∧ w.heap.size ≤ g ∧ SetAt w' g (secP F ins F.bl.length) F.rs.toNat) ∧ Below w.heap.size w w' := by
  have HL := Lib.hid h
  have hn1 := h.ok.b1
  have hn2 := h.ok.b2
  obtain ⟨hrs, hrs2⟩ := h.ok.rsN
  obtain ⟨g2, o2, c2, Ao0, co0, rfl, r1, r2, r3, -⟩ := h.bl_ (b := 0) (by omega)
  have l0 : w.cell? ⟨gl, 0, none⟩ = some (.pointer (some ⟨gg, 0, none⟩)) := (h.lb.cell 0).trans rfl
  have m2 : w.cell? ⟨gg, 2, none⟩ = some (.int .i64 F.rs) := (h.gb.cell 2).trans rfl
  have m4 : w.cell? ⟨gg, 4, none⟩ = some (.slice (some ⟨g2, o2, none⟩) F.bl.length c2) := (h.gb.cell 4).trans rfl
  obtain ⟨m, hm⟩ : ∃ m, F.rs.toNat = m := ⟨_, rfl⟩
  rw [hrs, hm] at m2
  have HM := Lib.hid hm
  clear hrs
  rw [hm] at hrs2
  unfold maxLen at r2
  have HNEW := Lib.hid (set_new w m)
  have e2 := cell_al l0 (.cells (Tryz.zeroCells110.setIfInBounds 64 (.int .i64 (m : Int))) 110)
  have e4 := cell_al m4 (.cells (Tryz.zeroCells110.setIfInBounds 64 (.int .i64 (m : Int))) 110)
  clear h hm
  go_enter Tryz.func44, Tryz.ntmps44
  go_wp2_with fail
  go_loopw [25] (fun i wr => ∃ k : Nat, k ≤ F.bl.length ∧ i = .int .i64 k ∧ Hid (SetAt wr w.heap.size (secP F ins k) m ∧ Below w.heap.size w wr)) (fun i _ => F.bl.length - (intOf i).toNat)
  case atStart => exact ⟨0, Nat.zero_le _, rfl, HNEW.out, below1 _ _⟩
  case round =>
    clear HNEW e2 e4
    obtain ⟨k, hk, rfl, HW⟩ := hrel
    by_cases hlt : k < F.bl.length
    · obtain ⟨g3, o3, c3, Ao, co, ea, -, -, -, hc⟩ := HL.out.bl_ hlt
      cases ea
      obtain ⟨s0, s1, s2, s3, s4, s5, -⟩ := hc
      obtain ⟨bb, hbb⟩ : ∃ bb, blk F k = bb := ⟨_, rfl⟩
      have HBB := Lib.hid hbb
      rw [hbb] at s0 s1 s2 s3 s4 s5
      have x0 := (HW.out.2.cell (p := ⟨g2, o2 + k * 6, none⟩) r3).trans s0
      have x1 := (HW.out.2.cell (p := ⟨g2, o2 + k * 6 + 1, none⟩) r3).trans s1
      have x2 := (HW.out.2.cell (p := ⟨g2, o2 + k * 6 + 2, none⟩) r3).trans s2
      have x3 := (HW.out.2.cell (p := ⟨g2, o2 + k * 6 + 3, none⟩) r3).trans s3
      have x4 := (HW.out.2.cell (p := ⟨g2, o2 + k * 6 + 4, none⟩) r3).trans s4
      have x5 := (HW.out.2.cell (p := ⟨g2, o2 + k * 6 + 5, none⟩) r3).trans s5
      have hal := below1 wr (.cells #[.slice Ao bb.os.length co, .int .i64 bb.x.k, .int .i64 bb.x.a, .int .i64 bb.x.d, .int .i64 bb.x.t, .int .i64 bb.x.e] 45)
      have hB3 := HW.out.2.trans (below_of_le hal HW.out.2.size)
      have HS3 := Lib.hid (HW.out.1.below hal)
      obtain ⟨rb, hrb, hrc⟩ := HL.out.rc.val k (by rw [HL.out.ok.rch.1]; exact hlt)
      have hrlt := HL.out.rc.lt
      have y0 := (hB3.cell (p := ⟨gl, 0, none⟩) (cell_lt l0)).trans l0
      have m6 : w.cell? ⟨gg, 6, none⟩ = some (.slice (some ⟨gr, 0, none⟩) F.bl.length F.bl.length) := (HL.out.gb.cell 6).trans rfl
      have y6 := (hB3.cell (p := ⟨gg, 6, none⟩) (cell_lt m6)).trans m6
      have yr := (hB3.cell (p := ⟨gr, k, none⟩) hrlt).trans hrc
      have HSEC := Lib.hid (show secP F ins (k + 1) = if rb && bb.x.k == 4 then joinN (secP F ins k) (dropW (ins.getD bb.x.e.toNat zeroW) bb.x.d) (nW F) else secP F ins k by rw [secP, secS, hbb, hrb])
      have HB3 := Lib.hid hB3
      clear hbb hrb hrc hal hB3 s0 s1 s2 s3 s4 s5 HW
      cases rb with
      | false =>
        have HE := Lib.hid (show secP F ins (k + 1) = secP F ins k by rw [HSEC.out]; rfl)
        go_wp2_with fail
        go_roundw
        case rel => exact ⟨k + 1, by omega, by go_num, by rw [HE.out]; exact HS3.out, HB3.out⟩
        case measure => simp [intOf]; omega
      | true =>
        cases hk4 : (bb.x.k == 4) with
        | false =>
          have HE := Lib.hid (show secP F ins (k + 1) = secP F ins k by rw [HSEC.out, hk4]; rfl)
          go_wp2_with fail
          go_roundw
          case rel => exact ⟨k + 1, by omega, by go_num, by rw [HE.out]; exact HS3.out, HB3.out⟩
          case measure => simp [intOf]; omega
        | true =>
          have HE := Lib.hid (show secP F ins (k + 1) = joinN (secP F ins k) (dropW (ins.getD bb.x.e.toNat zeroW) bb.x.d) (nW F) by rw [HSEC.out, hk4]; rfl)
          have hset := exB_set (HL.out.ok.ex _ (List.getElem_mem hlt)) (by rw [← blk_at_ hlt, HBB.out]; exact eq_of_beq hk4)
          rw [← blk_at_ hlt, HBB.out] at hset
          obtain ⟨⟨-, hse⟩, -, ⟨-, hsd⟩, -, -⟩ := hset
          have hse0 : 0 ≤ bb.x.e := by have := (exB_set (HL.out.ok.ex _ (List.getElem_mem hlt)) (by rw [← blk_at_ hlt, HBB.out]; exact eq_of_beq hk4)).1.1; rw [← blk_at_ hlt, HBB.out] at this; omega
          have htn : bb.x.e.toNat < F.bl.length := by omega
          obtain ⟨g, ⟨gi, oi, ci, rfl, u1, u2, u3, u4⟩, hs, -⟩ := HL.out.get htn
          unfold maxLen at u2
          have u6 : w.cell? ⟨gl, 1, none⟩ = some (.slice (some ⟨gi, oi, none⟩) F.bl.length ci) := (HL.out.lb.cell 1).trans rfl
          have y1 := (HB3.out.cell (p := ⟨gl, 1, none⟩) (cell_lt u6)).trans u6
          have yg := (HB3.out.cell (p := ⟨gi, oi + bb.x.e.toNat, none⟩) u4).trans u3
          rw [HM.out] at hs
          have hd4 : bb.x.d < 4096 := by have := HL.out.ok.r1; omega
          have HWI := Lib.hid (fun W (hb : Below w.heap.size w W) => without_any g _ m bb.x.d W (hs.below hb) hd4)
          have HJ := Lib.hid (fun W g2 os h1 h2 h3 => join_any w.heap.size g2 (secP F ins k) os m m W h1 h2 h3 hrs2)
          have hnw : (m + 63) / 64 = nW F := by rw [nW, HM.out]
          have HNW := Lib.hid hnw
          clear u3 u6 hs hd4 hnw HSEC
          go_wp2_with fail
          go_region_with (first
            | (go_at_call 68; refine (HWI.out _ ?_).mono ?_; (first | exact HB3.out | exact drewB HB3.out); rintro e w4 ⟨⟨g', rfl, hge, hs4⟩, hb4⟩)
            | (go_at_call 45; (refine (HJ.out w4 g' _ (by first | exact HS3.out.below hb4 | exact HS3.out.drew.below hb4) hs4 (by have := HS3.out.lt; (first | omega | (simp only [World.size_drew] at hge; omega)))).mono ?_; rintro e w5 ⟨rfl, hs5, hk5⟩)))
          all_goals
            have hB4 : Below w.heap.size w w4 := (drewB HB3.out).trans (below_of_le hb4 HB3.out.size)
            have HN := Lib.hid (show SetAt w5 w.heap.size (secP F ins (k + 1)) m ∧ Below w.heap.size w w5 from ⟨by rw [HE.out, ← HNW.out]; exact hs5, hB4.trans (hk5.toBelow hB4.size (fun k hk => by omega))⟩)
            clear hs5 hk5 hB4 hb4 hge hs4
            go_wp2_with fail
            go_roundw
            case rel => exact ⟨k + 1, by omega, by go_num, HN.out⟩
            case measure => simp [intOf]; omega
    · have hke : k = F.bl.length := by omega
      subst hke
      go_wp2_with fail
      go_ret
      exact ⟨⟨_, rfl, Nat.le_refl _, by rw [HM.out]; exact HW.out.1⟩, HW.out.2⟩
end Go.Proofs.YtlmoblmkhicoeaaGreatDoor
namespace Go.Proofs.YtlmoblmkhicoeaaGreatDoor
open Go.RowKit
theorem und86 : Tryz.prog.underlying 86 = some (.slice 91) := by kernel_rfl
theorem inf91 : (Tryz.prog.info? 91).map (fun i => (i.zero, i.size, i.bytes)) = some (some (.pointer none), 1, 8) := by kernel_rfl
theorem arowP : ARow 86 91 1 8 := arow_of und86 inf91 rfl (by decide)
/-- The world behind drawn: what does not turn any more. -/
structure LvB (wb : World) (gg : Nat) (F : Fn) (sv bv tov : Value) (gr : Nat) : Prop where
  gb : Blk wb gg 90 (grA F sv bv tov (.slice (some ⟨gr, 0, none⟩) F.bl.length F.bl.length))
  to : ToAt wb tov (toL F)
  rc : BRow wb gr (rchL F)
  fi : FnIn wb F sv bv
  ok : FnOk F
/-- The sets. -/
structure LvS (wb : World) (gl gg : Nat) (k m : Nat) (inv : Value) (gs : List Nat) (ins : List (List Nat)) (W : World) : Prop where
  lb : Blk W gl 88 #[.pointer (some ⟨gg, 0, none⟩), inv]
  glb : wb.heap.size ≤ gl
  ow : W.ownsRow wb.heap.size 91 1 inv k (gs.map ptr)
  gn : gs.length = k
  il : ins.length = k
  st : ∀ i (h : i < gs.length) (h2 : i < ins.length), SetAt W gs[i] ins[i] m
  nd : gs.Nodup
  gsb : ∀ g ∈ gs, wb.heap.size ≤ g
  be : Below wb.heap.size wb W
theorem LvS.below {wb W W' : World} {gl gg k m : Nat} {inv : Value} {gs : List Nat} {ins : List (List Nat)} (h : LvS wb gl gg k m inv gs ins W) (hb : Below W.heap.size W W') : LvS wb gl gg k m inv gs ins W' :=
  ⟨h.lb.below hb h.lb.lt, h.glb, ownsRow_keeps h.ow (keeps_of_below (fun _ => False) hb) (fun _ _ => id), h.gn, h.il, fun i a b => (h.st i a b).below hb, h.nd, h.gsb, h.be.trans (below_of_le hb h.be.size)⟩
theorem LvS.at_ {wb W : World} {gl gg : Nat} {inv : Value} {gs : List Nat} {ins : List (List Nat)} {F : Fn} {sv bv tov : Value} {gr : Nat} (h : LvS wb gl gg F.bl.length F.rs.toNat inv gs ins W) (hB : LvB wb gg F sv bv tov gr) : LvAt W gl gg F sv bv tov gr inv gs ins :=
  ⟨h.lb, hB.gb.below h.be hB.gb.lt, hB.to.below h.be, hB.rc.below h.be, hB.fi.below h.be, RowOf.own h.ow, h.gn, h.il, h.st, h.nd, hB.ok⟩
theorem SetAt.kind {W : World} {g : Nat} {ws : List Nat} {m : Nat} {t : TypeId} {cs : Array Value} (h : SetAt W g ws m) (h2 : Blk W g t cs) : t = 110 := by
  obtain ⟨c, hb, -⟩ := h.b
  exact Blk.kind h2 hb
/-- One set joined. -/
theorem LvS.join {wb W W' : World} {gl gg k m : Nat} {inv : Value} {gs : List Nat} {ins : List (List Nat)} (h : LvS wb gl gg k m inv gs ins W) {b g : Nat} (hb : gs[b]? = some g) (hk : Keeps (fun q => q = g) W W') {new : List Nat} (hs : SetAt W' g new m) : LvS wb gl gg k m inv gs (ins.set b new) W' := by
  have hbl : b < gs.length := by
    rcases Nat.lt_or_ge b gs.length with h1 | h1
    · exact h1
    · rw [List.getElem?_eq_none h1] at hb; cases hb
  have hge : gs[b] = g := by rw [List.getElem?_eq_getElem hbl] at hb; exact Option.some.inj hb
  have hold : SetAt W g (ins[b]'(by rw [h.il, ← h.gn]; exact hbl)) m := hge ▸ h.st b hbl (by rw [h.il, ← h.gn]; exact hbl)
  have hgl : ¬ gl = g := fun e => absurd (hold.kind (e ▸ h.lb)) (by decide)
  have hiv : ∀ q, inv.ownBlock = some q → ¬ q = g := fun q hq e => by
    obtain ⟨cur, hc⟩ := owns_kind h.ow hq
    exact absurd (hold.kind (e ▸ hc)) (by decide)
  refine ⟨h.lb.keeps hk hgl, h.glb, ownsRow_keeps h.ow hk hiv, h.gn, by rw [List.length_set]; exact h.il, fun i hi hi2 => ?_, h.nd, h.gsb, h.be.trans (hk.toBelow h.be.size (fun q hq e => ?_))⟩
  · rw [List.length_set] at hi2
    by_cases e : b = i
    · subst e
      rw [List.getElem_set_self, hge]; exact hs
    · rw [List.getElem_set_ne e]
      refine (h.st i hi hi2).keeps hk (fun e2 => e ?_)
      have := (List.getElem_inj h.nd).1 (hge.trans e2.symm : gs[b] = gs[i])
      exact this
  · have := h.gsb g (by rw [← hge]; exact List.getElem_mem hbl)
    omega
end Go.Proofs.YtlmoblmkhicoeaaGreatDoor
namespace Go.Proofs.YtlmoblmkhicoeaaGreatDoor
def tot (ws : List Nat) : Nat := (ws.map (fun x => 18446744073709551616 - x)).sum
def totAll (ins : List (List Nat)) : Nat := (ins.map tot).sum
theorem sum_set {α : Type} (f : α → Nat) : ∀ (l : List α) (k : Nat) (y : α) (h : k < l.length), ((l.set k y).map f).sum + f l[k] = (l.map f).sum + f y
  | [], k, y, h => absurd h (by simp)
  | a :: l, 0, y, h => by simp; omega
  | a :: l, k + 1, y, h => by
    have := sum_set f l k y (by simpa using h)
    simp only [List.set_cons_succ, List.map_cons, List.sum_cons, List.getElem_cons_succ]
    omega
theorem joinN_tot (ws os : List Nat) (hl : ws.length = 64) (hw : ∀ x ∈ ws, x < 2 ^ 64) : ∀ k, k ≤ 64 → tot (joinN ws os k) + (if grewN ws os k then 1 else 0) ≤ tot ws
  | 0, _ => by simp [joinN, grewN]
  | k + 1, hk => by
    have ih := joinN_tot ws os hl hw k (by omega)
    have hkl : k < (joinN ws os k).length := by rw [joinN_len, hl]; omega
    have hs := sum_set (fun x => 18446744073709551616 - x) (joinN ws os k) k (ws.getD k 0 ||| os.getD k 0) hkl
    have hv : (joinN ws os k)[k] = ws.getD k 0 := by
      have := joinN_ge ws os k k (Nat.le_refl _)
      rw [← this]; simp [hkl]
    rw [hv] at hs
    have ha : ws.getD k 0 < 2 ^ 64 := by
      have hkw : k < ws.length := by omega
      have e : ws.getD k 0 = ws[k] := by simp [hkw]
      rw [e]; exact hw _ (List.getElem_mem hkw)
    have hle : ws.getD k 0 ≤ ws.getD k 0 ||| os.getD k 0 := Nat.left_le_or
    rw [joinN, grewN]
    have hs2 : tot ((joinN ws os k).set k (ws.getD k 0 ||| os.getD k 0)) + (18446744073709551616 - ws.getD k 0) = tot (joinN ws os k) + (18446744073709551616 - (ws.getD k 0 ||| os.getD k 0)) := hs
    generalize ws.getD k 0 ||| os.getD k 0 = c at *
    generalize ws.getD k 0 = a at *
    have ha' : a < 18446744073709551616 := by simpa using ha
    by_cases hc : c = a
    · subst hc
      have e : (grewN ws os k || c != c) = grewN ws os k := by rw [bne_self_eq_false, Bool.or_false]
      rw [e]
      omega
    · have e : (grewN ws os k || c != a) = true := by rw [bne_iff_ne.2 hc, Bool.or_true]
      rw [e, if_pos rfl]
      split at ih <;> omega
theorem totAll_join (ins : List (List Nat)) (b : Nat) (hb : b < ins.length) (os : List Nat) (N : Nat) (hN : N ≤ 64) (hl : (ins.getD b zeroW).length = 64) (hw : ∀ x ∈ ins.getD b zeroW, x < 2 ^ 64) : totAll (ins.set b (joinN (ins.getD b zeroW) os N)) + (if grewN (ins.getD b zeroW) os N then 1 else 0) ≤ totAll ins := by
  have h1 := joinN_tot _ os hl hw N hN
  have h2 := sum_set tot ins b (joinN (ins.getD b zeroW) os N) hb
  have e : ins[b] = ins.getD b zeroW := by simp [hb]
  rw [e] at h2
  unfold totAll
  omega
/-- A set of registers below R alone. -/
def okW (R : Nat) (ws : List Nat) : Prop := ∀ i j, (ws.getD i 0).testBit j = true → 64 * i + j < R
theorem getD_set_ {l : List Nat} {n i x : Nat} : (l.set n x).getD i 0 = if n = i ∧ n < l.length then x else l.getD i 0 := by
  simp only [List.getD_eq_getElem?_getD, List.getElem?_set]
  by_cases h : n = i
  · subst h
    by_cases h2 : n < l.length <;> simp [h2]
  · simp [h]
theorem okW_zero (R : Nat) : okW R zeroW := by
  intro i j h
  have : zeroW.getD i 0 = 0 := by
    unfold zeroW
    simp only [List.getD_eq_getElem?_getD, List.getElem?_replicate]
    split <;> rfl
  rw [this] at h; simp at h
theorem okW_put {R : Nat} {ws : List Nat} {n : Nat} (h : okW R ws) (hn : n < R) : okW R (putW ws n) := by
  intro i j hj
  unfold putW at hj
  rw [getD_set_] at hj
  split at hj
  · rename_i hc
    obtain ⟨rfl, -⟩ := hc
    rw [Nat.testBit_or] at hj
    rcases Bool.or_eq_true _ _ ▸ hj with h1 | h1
    · exact h _ j h1
    · rw [Nat.testBit_two_pow] at h1
      have : n % 64 = j := by simpa using h1
      omega
  · exact h i j hj
theorem okW_and {R : Nat} {ws : List Nat} {k c : Nat} (h : okW R ws) : okW R (ws.set k (ws.getD k 0 &&& c)) := by
  intro i j hj
  rw [getD_set_] at hj
  split at hj
  · rename_i hc
    obtain ⟨rfl, -⟩ := hc
    rw [Nat.testBit_and] at hj
    exact h _ j (by simpa using (Bool.and_eq_true _ _ ▸ hj).1)
  · exact h i j hj
theorem okW_drop {R : Nat} {ws : List Nat} {n : Int} (h : okW R ws) : okW R (dropW ws n) := by
  unfold dropW
  split
  · exact okW_and h
  · exact h
theorem okW_join {R : Nat} {ws os : List Nat} (h : okW R ws) (ho : okW R os) : ∀ k, okW R (joinN ws os k)
  | 0 => h
  | k + 1 => by
    intro i j hj
    rw [joinN, getD_set_] at hj
    split at hj
    · rename_i hc
      obtain ⟨rfl, -⟩ := hc
      rw [Nat.testBit_or] at hj
      rcases Bool.or_eq_true _ _ ▸ hj with h1 | h1
      · exact h _ j h1
      · exact ho _ j h1
    · exact okW_join h ho k i j hj
def okI (R : Nat) (ins : List (List Nat)) : Prop := ∀ b, okW R (ins.getD b zeroW)
theorem okW_puts {R : Nat} (l : List Int) : ∀ s, okW R s → (∀ r ∈ l, 0 ≤ r ∧ r < (R : Int)) → okW R (l.foldl putI s) := by
  induction l with
  | nil => intro s h _; exact h
  | cons a l ih =>
    intro s h hl
    have := hl a (List.mem_cons_self ..)
    rw [List.foldl_cons]
    exact ih _ (okW_put h (by omega)) (fun r hr => hl r (List.mem_cons_of_mem _ hr))
theorem okW_ends {R : Nat} (F : Fn) (ins : List (List Nat)) (hi : okI R ins) (l : List Int) : ∀ s, okW R s → okW R (l.foldl (endS F ins) s) := by
  induction l with
  | nil => intro s h; exact h
  | cons a l ih => intro s h; rw [List.foldl_cons]; exact ih _ (okW_join h (hi _) _)
theorem okW_end {R : Nat} (F : Fn) (ins : List (List Nat)) (hi : okI R ins) (b : Nat) : okW R (endP F ins b) := by
  unfold endP
  have := okW_ends F ins hi (onceL (exT (blk F b).x)) zeroW (okW_zero R)
  simp only
  split
  · exact okW_drop this
  · exact this
theorem blk_ok {F : Fn} (h : FnOk F) (b : Nat) : (∀ r ∈ exR (blk F b).x, 0 ≤ r ∧ r < F.rs) ∧ ∀ o ∈ (blk F b).os, ∀ r ∈ reads o, 0 ≤ r ∧ r < F.rs := by
  rcases Nat.lt_or_ge b F.bl.length with hb | hb
  · have e : blk F b = F.bl[b] := by simp [blk, hb]
    rw [e]
    have hm := List.getElem_mem hb
    refine ⟨exB_regs (h.ex _ hm), fun o ho r hr => ?_⟩
    have h1 := reads_mem hr
    exact ⟨h1.2, (opB_parts (h.op _ hm o ho)).1 r h1.1 h1.2⟩
  · have e : blk F b = bl0 := by simp [blk, hb]
    rw [e]
    refine ⟨fun r hr => by simp [bl0, exR] at hr, fun o ho => by simp [bl0] at ho⟩
theorem okW_back {F : Fn} (h : FnOk F) {sec : List Nat} (hsec : okW F.rs.toNat sec) (os : List Op) (hos : ∀ o ∈ os, ∀ r ∈ reads o, 0 ≤ r ∧ r < F.rs) : ∀ s, okW F.rs.toNat s → okW F.rs.toNat (os.foldr (fun o s => backP F sec s o) s) := by
  induction os with
  | nil => intro s hs; exact hs
  | cons o os ih =>
    intro s hs
    rw [List.foldr_cons]
    have h1 := ih (fun o ho => hos o (List.mem_cons_of_mem _ ho)) s hs
    have h2 : okW F.rs.toNat ((reads o).foldl putI (dropW (os.foldr (fun o s => backP F sec s o) s) o.d)) :=
      okW_puts _ _ (okW_drop h1) (fun r hr => by have := hos o (List.mem_cons_self ..) r hr; have := h.rs0; omega)
    unfold backP
    simp only
    split
    · exact okW_join h2 hsec _
    · exact h2
theorem okW_point {F : Fn} (h : FnOk F) {ins : List (List Nat)} (hi : okI F.rs.toNat ins) {sec : List Nat} (hsec : okW F.rs.toNat sec) (b : Nat) : okW F.rs.toNat (pointP F ins sec b) := by
  obtain ⟨h1, h2⟩ := blk_ok h b
  exact okW_back h hsec _ h2 _ (okW_puts _ _ (okW_end F ins hi b) (fun r hr => by have := h1 r hr; have := h.rs0; omega))
theorem okW_sec {F : Fn} {ins : List (List Nat)} (hi : okI F.rs.toNat ins) : ∀ k, okW F.rs.toNat (secP F ins k)
  | 0 => okW_zero _
  | k + 1 => by
    unfold secP secS
    split
    · exact okW_join (okW_sec hi k) (okW_drop (hi _)) _
    · exact okW_sec hi k
theorem okI_set {R : Nat} {ins : List (List Nat)} (hi : okI R ins) {b : Nat} {ws : List Nat} (hw : okW R ws) : okI R (ins.set b ws) := by
  intro c
  have : (ins.set b ws).getD c zeroW = if b = c ∧ b < ins.length then ws else ins.getD c zeroW := by
    simp only [List.getD_eq_getElem?_getD, List.getElem?_set]
    by_cases h : b = c
    · subst h
      by_cases h2 : b < ins.length <;> simp [h2]
    · simp [h]
  rw [this]
  split
  · exact hw
  · exact hi c
theorem okI_pass {F : Fn} (h : FnOk F) {sec : List Nat} (hsec : okW F.rs.toNat sec) : ∀ k (st : List (List Nat) × Bool), okI F.rs.toNat st.1 → okI F.rs.toNat (passP F sec k st).1
  | 0, st, hs => hs
  | k + 1, st, hs => by
    rw [passP]
    refine okI_pass h hsec k _ ?_
    unfold passS
    split
    · exact okI_set hs (okW_join (hs _) (okW_point h hs hsec k) _)
    · exact hs
theorem okI_live {F : Fn} (h : FnOk F) : ∀ f ins, okI F.rs.toNat ins → okI F.rs.toNat (liveF F f ins)
  | 0, ins, hi => hi
  | f + 1, ins, hi => by
    rw [liveF]
    have hr : okI F.rs.toNat (round F ins).1 := okI_pass h (okW_sec hi _) _ _ hi
    split
    · exact okI_live h f _ hr
    · exact hr
def ins0 (n : Nat) : List (List Nat) := List.replicate n zeroW
theorem okI_ins0 (R n : Nat) : okI R (ins0 n) := by
  intro b
  have : (ins0 n).getD b zeroW = zeroW := by
    unfold ins0
    simp only [List.getD_eq_getElem?_getD, List.getElem?_replicate]
    split <;> rfl
  rw [this]; exact okW_zero R
/-- What is live at the blocks' beginnings. -/
def liveL (F : Fn) : List (List Nat) := liveF F (totAll (ins0 F.bl.length) + 1) (ins0 F.bl.length)
theorem liveL_ok {F : Fn} (h : FnOk F) : okI F.rs.toNat (liveL F) := okI_live h _ _ (okI_ins0 _ _)
end Go.Proofs.YtlmoblmkhicoeaaGreatDoor
