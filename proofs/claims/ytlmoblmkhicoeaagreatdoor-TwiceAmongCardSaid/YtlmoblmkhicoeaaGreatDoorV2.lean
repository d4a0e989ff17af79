/- Walks: twice.Between at a set; twice.Unset. Conditions: the tables; small parts; a right function. Walks: twice.Analyze. Conditions: the tables; small parts. -/
import Derived.Test.YtlmoblmkhicoeaaGreatDoorU3
set_option linter.unusedVariables false
set_option linter.unusedSimpArgs false
namespace Go.Proofs.YtlmoblmkhicoeaaGreatDoor
open Go.RowKit
set_option maxRecDepth 100000 in
set_option maxHeartbeats 4000000 in
theorem Between_any (F : Fn) (sv bv : Value) (w : World) (h : FnIn w F sv bv) (ht : TzAt w) (b : Nat) (hb : b < F.bl.length) (hs : setF F b = true) (hf : fnB F = true) :
    Calls Tryz.prog 12 #[fnv F sv bv, .int .i64 b] w fun e w' => (∃ v, e = .returned (.tuple #[v, .int .i64 0]) ∧ OwnI w' w.heap.size v (ixs (btL F b))) ∧ Below w.heap.size w w' := by
  obtain ⟨A, c, rfl, h1, h2⟩ := h.bl.form
  obtain ⟨As, cs, rfl, -, -⟩ := RowOf.form h.sl
  unfold maxLen at h2
  have hn2 := (fnB_ok hf).b2
  have hr1 := (fnB_ok hf).r1
  have hk4 : (blk F b).x.k = 4 := by
    have := (Bool.and_eq_true _ _ ▸ hs).2
    exact eq_of_beq this
  have hb1 := below1 w (.cells #[.string F.nm, .int .i64 F.ps, .int .i64 F.rs, .slice As F.sl.length cs, .slice A F.bl.length c] 25)
  have HBX := Lib.hid (And.intro (Blk.new w 25 #[.string F.nm, .int .i64 F.ps, .int .i64 F.rs, .slice As F.sl.length cs, .slice A F.bl.length c]) hb1)
  have HLK := Lib.hid (looked_any F (.slice As F.sl.length cs) (.slice A F.bl.length c) _ (h.below hb1) (ht.below hb1))
  have HF := Lib.hid (And.intro hf hs)
  unfold fnv at HLK
  unfold fnv
  clear h ht hb1 hf hs
  go_enter Tryz.func12, Tryz.ntmps12
  go_wp2_with fail
  refine HLK.out.mono ?_
  rintro e w1 ⟨⟨hf0, -⟩ | ⟨-, gp, rv, tov, inv, ouv, rfl, hp⟩, hb1⟩
  · rw [HF.out.1] at hf0; cases hf0
  have hX1 := HBX.out.1.below hb1 HBX.out.1.lt
  have hB1 := HBX.out.2.trans (below_of_le hb1 HBX.out.2.size)
  have c4 : w1.cell? ⟨w.heap.size, 4, none⟩ = some (.slice A F.bl.length c) := (hX1.cell 4).trans rfl
  have HIS := Lib.hid (isSet_any gp F _ _ rv tov inv ouv b hb w1 hp)
  rw [HF.out.2] at HIS
  have HBT := Lib.hid (fun W (hW : Below w1.heap.size w1 W) => between_any gp F _ _ rv tov inv ouv b hb hk4 W (hp.below hW))
  have HB1 := Lib.hid hB1
  have hge : (0 : Int) ≤ (b : Int) := by omega
  have hltI : (b : Int) < (F.bl.length : Int) := by omega
  have hng : ¬ ((F.bl.length : Int) ≤ (b : Int)) := by omega
  clear hb1 hX1 hB1 hp
  go_wp2_with fail
  refine HIS.out.mono ?_
  rintro e w2 ⟨rfl, hb2⟩
  have HB2 := Lib.hid hb2
  clear hb2 c4 HIS
  go_wp2_with fail
  refine (HBT.out w2 HB2.out).mono ?_
  rintro e w3 ⟨⟨g, rfl, hg, hbr, hbl⟩, hb3⟩
  have HSL := Lib.hid (setList_any (btL F b) (.slice (some ⟨g, 0, none⟩) F.rs.toNat F.rs.toNat) w3 (hbr.bools hbl (by unfold maxLen; omega)) (by omega))
  have HB3 := Lib.hid (show Below w.heap.size w w3 from HB1.out.trans ((below_of_le (HB2.out.trans (below_of_le hb3 HB2.out.size)) HB1.out.size)))
  clear hbr hbl hb3 HBT
  go_wp2_with fail
  refine HSL.out.mono ?_
  rintro e w4 ⟨⟨v, rfl, ho⟩, hb4⟩
  obtain ⟨A4, c4, rfl, -, -⟩ := ho.form
  have HN := Lib.hid (show OwnI w4 w.heap.size (.slice A4 (ixs (btL F b)).length c4) (ixs (btL F b)) ∧ Below w.heap.size w w4 from ⟨ho.lower HB3.out.size, HB3.out.trans (below_of_le hb4 HB3.out.size)⟩)
  obtain ⟨l, hl⟩ : ∃ l, ixs (btL F b) = l := ⟨_, rfl⟩
  rw [hl] at HN ⊢
  have HLL := Lib.hid hl
  clear ho hb4 hl HSL
  go_wp2_with fail
  refine bodyPost_ret (v := .tuple #[.slice A4 l.length c4, .int .i64 0]) (by simp [results, Tryz.results12, go_sem]) rfl ⟨⟨_, rfl, by rw [HLL.out]; exact HN.out.1⟩, HN.out.2⟩
theorem OwnR.lower {W : World} {B B' : Nat} {v : Value} {tl : List (List Int)} (h : OwnR W B v tl) (hb : B' ≤ B) : OwnR W B' v tl := by
  obtain ⟨vs, h1, h2, h3⟩ := h
  exact ⟨vs, h1, ownsRow_lower h2 hb, fun i a b => (h3 i a b).lower hb⟩
set_option maxRecDepth 100000 in
set_option maxHeartbeats 4000000 in
theorem Unset_any (F : Fn) (sv bv : Value) (w : World) (h : FnIn w F sv bv) (ht : TzAt w) :
    Calls Tryz.prog 6 #[fnv F sv bv] w fun e w' => (fnB F = false ∧ e = .returned (.tuple #[.slice none 0 0, errV F]) ∨ fnB F = true ∧ ∃ v, e = .returned (.tuple #[v, .int .i64 0]) ∧ OwnR w' w.heap.size v ((unL F).map ixs) ∧ UnOk F (unL F)) ∧ Below w.heap.size w w' := by
  obtain ⟨A, c, rfl, h1, h2⟩ := h.bl.form
  obtain ⟨As, cs, rfl, -, -⟩ := RowOf.form h.sl
  have hb1 := below1 w (.cells #[.string F.nm, .int .i64 F.ps, .int .i64 F.rs, .slice As F.sl.length cs, .slice A F.bl.length c] 25)
  have HBX := Lib.hid hb1
  have HLK := Lib.hid (looked_any F (.slice As F.sl.length cs) (.slice A F.bl.length c) _ (h.below hb1) (ht.below hb1))
  have HE := Lib.hid (show fnB F = false → errV F = .int .i64 180 from fun hb => by rw [errV, hb]; rfl)
  unfold fnv at HLK
  unfold fnv
  clear h ht hb1
  go_enter Tryz.func6, Tryz.ntmps6
  go_wp2_with fail
  refine HLK.out.mono ?_
  rintro e w1 ⟨⟨hf0, rfl⟩ | ⟨hf, gp, rv, tov, inv, ouv, rfl, hp⟩, hb1⟩
  · have HN := Lib.hid (And.intro hf0 (HBX.out.trans (below_of_le hb1 HBX.out.size)))
    rw [HE.out hf0]
    clear hf0 hb1
    go_wp2_with fail
    refine bodyPost_ret (v := .tuple #[.slice none 0 0, .int .i64 180]) (by simp [results, Tryz.results6, go_sem]) rfl ⟨Or.inl ⟨HN.out.1, by rw [HE.out HN.out.1]⟩, HN.out.2⟩
  · have HF := Lib.hid hf
    have hn2 := (fnB_ok hf).b2
    have hr1 := (fnB_ok hf).r1
    have HUN := Lib.hid (unset_any gp F _ _ rv tov inv ouv w1 hp)
    have HB1 := Lib.hid (HBX.out.trans (below_of_le hb1 HBX.out.size))
    clear hb1 hp hf
    go_wp2_with fail
    refine HUN.out.mono ?_
    rintro e w2 ⟨⟨gI, gs, rfl, hu, hok⟩, hb2⟩
    have HU := Lib.hid hu
    have HOK := Lib.hid hok
    have HB2 := Lib.hid (HB1.out.trans (below_of_le hb2 HB1.out.size))
    obtain ⟨ul, hul⟩ : ∃ ul, unL F = ul := ⟨_, rfl⟩
    rw [hul] at HU HOK
    have HUL := Lib.hid hul
    have HUn := Lib.hid HOK.out.n
    clear hb2 hu hok hul HUN
    go_wp2_with fail
    go_loopw [20, 6] (fun i ov wr => ∃ k : Nat, k ≤ F.bl.length ∧ i = .int .i64 k ∧ Hid (OwnR wr w2.heap.size ov ((ul.take k).map ixs) ∧ Below w2.heap.size w2 wr)) (fun i _ _ => F.bl.length - (intOf i).toNat)
    case atStart => exact ⟨0, Nat.zero_le _, rfl, OwnR.nil _ _, Below.refl _ _⟩
    case round =>
      obtain ⟨k, hk, rfl, HW⟩ := hrel
      by_cases hlt : k < F.bl.length
      · have hu3 := HU.out.below HW.out.2
        obtain ⟨y1, y2⟩ := hu3.cell hlt
        have hul : k < ul.length := by rw [HUn.out]; exact hlt
        have hrow : ∃ A3 n3 c3, unV F gs F.bl.length k = .slice A3 n3 c3 ∧ ∃ l, Bools wr (.slice A3 n3 c3) l ∧ l.length ≤ 4096 ∧ ixs l = ixs ul[k] := by
          cases hrk : (rchL F).getD k false with
          | false =>
            refine ⟨none, 0, 0, unV_no hrk, [], ⟨none, 0, rfl, Nat.le_refl _, by decide, fun h => absurd h (by simp)⟩, by simp, ?_⟩
            have e : ul.getD k [] = ul[k] := by simp [hul]
            rw [← e, HOK.out.z k hlt hrk]
          | true =>
            obtain ⟨ho, hil, -, -⟩ := hu3.ro k hlt hrk
            have e : ul.getD k [] = ul[k] := by simp [hul]
            rw [e] at ho hil
            exact ⟨_, _, _, unV_yes hlt hrk, ul[k], ho.bools, by omega, rfl⟩
        obtain ⟨A3, n3, c3, e3, l, hl1, hl2, hl3⟩ := hrow
        rw [e3] at y1
        have HSL := Lib.hid (setList_any l (.slice A3 n3 c3) wr hl1 hl2)
        have HL3 := Lib.hid hl3
        clear hu3 y2 e3 hl1 hl3
        go_wp2_with fail
        refine HSL.out.mono ?_
        rintro e w4 ⟨⟨v, rfl, ho⟩, hb4⟩
        rw [HL3.out] at ho
        have hr4 := HW.out.1.below hb4
        obtain ⟨v', w5, hap, how, hkp⟩ := hr4.push (ho.lower HW.out.2.size) (Nat.le_trans HW.out.2.size hb4.size) (by rw [List.length_map, List.length_take]; omega) 27
        obtain ⟨A4, c4, rfl, -, -⟩ := ho.form
        have HAP := Lib.hid hap
        have HN := Lib.hid (show OwnR w5 w2.heap.size v' ((ul.take (k + 1)).map ixs) ∧ Below w2.heap.size w2 w5 from by
          have hb5 := HW.out.2.trans (below_of_le hb4 HW.out.2.size)
          refine ⟨?_, hb5.trans (hkp.toBelow hb5.size (fun q hq e => by have := hr4.ge q e; omega))⟩
          rw [List.take_succ_eq_append_getElem hul, List.map_append]
          exact how)
        obtain ⟨il, hil⟩ : ∃ il, ixs ul[k] = il := ⟨_, rfl⟩
        rw [hil] at HAP ⊢
        clear hr4 hap how hkp ho hb4 HW HSL hil HL3
        go_wp2_with (at_builtin; refine wpList_append_eq rfl (.tmp 24) (.tmp 27) 27 rfl rfl rfl HAP.out ?_)
        go_roundw
        case rel => exact ⟨k + 1, by omega, by go_num, HN.out⟩
        case measure => simp [intOf]; omega
      · have hke : k = F.bl.length := by omega
        subst hke
        have hfull : ul.take F.bl.length = ul := by rw [← HUn.out, List.take_length]
        have hw := HW.out
        rw [hfull] at hw
        obtain ⟨A5, c5, rfl, -, -⟩ := hw.1.form
        have HN := Lib.hid (show OwnR wr w.heap.size (.slice A5 (ul.map ixs).length c5) ((unL F).map ixs) ∧ UnOk F (unL F) ∧ Below w.heap.size w wr from by
          rw [HUL.out]
          exact ⟨hw.1.lower HB2.out.size, HOK.out, HB2.out.trans (below_of_le hw.2 HB2.out.size)⟩)
        obtain ⟨ml, hml⟩ : ∃ ml, (ul.map ixs).length = ml := ⟨_, rfl⟩
        rw [hml]
        rw [hml] at HN
        clear HW hw hfull hml
        go_wp2_with fail
        refine bodyPost_ret (v := .tuple #[.slice A5 ml c5, .int .i64 0]) (by simp [results, Tryz.results6, go_sem]) rfl ⟨Or.inr ⟨HF.out, _, rfl, HN.out.1, HN.out.2.1⟩, HN.out.2.2⟩
end Go.Proofs.YtlmoblmkhicoeaaGreatDoor
namespace Go.Proofs.YtlmoblmkhicoeaaGreatDoor
open Go.RowKit
structure Tw where
  b : Nat
  kp : List Int
  ri : List Int
def twc (p : Tw × (Value × Value)) : List Value := [.int .i64 (p.1.b : Int), p.2.1, p.2.2]
def riskF (F : Fn) (b : Nat) : List Int := (keptF F b).filter (fun r => (btL F b).getD r.toNat false)
/-- What Analyze hands back: the first k blocks. -/
def anN (F : Fn) : Nat → List Tw
  | 0 => []
  | k + 1 => if setF F k then anN F k ++ [⟨k, keptF F k, riskF F k⟩] else anN F k
def anL (F : Fn) : List Tw := anN F F.bl.length
theorem anN_len (F : Fn) : ∀ k, (anN F k).length ≤ k
  | 0 => Nat.le_refl _
  | k + 1 => by
    have := anN_len F k
    rw [anN]
    split
    · rw [List.length_append]; simp; omega
    · omega
theorem und35 : Tryz.prog.underlying 35 = some (.slice 55) := by kernel_rfl
theorem inf55 : (Tryz.prog.info? 55).map (fun i => (i.zero, i.size, i.bytes)) = some (some (.agg #[.int .i64 0, .slice none 0 0, .slice none 0 0]), 3, 56) := by kernel_rfl
theorem arowT : ARow 35 55 3 56 := arow_of und35 inf55 rfl (by decide)
def OwnT (W : World) (B : Nat) (v : Value) (l : List Tw) : Prop :=
  ∃ vs : List (Value × Value), vs.length = l.length ∧ W.ownsRow B 55 3 v l.length ((l.zip vs).flatMap twc) ∧ ∀ i (h : i < l.length) (h2 : i < vs.length), OwnI W B vs[i].1 l[i].kp ∧ OwnI W B vs[i].2 l[i].ri
theorem OwnT.nil (W : World) (B : Nat) : OwnT W B (.slice none 0 0) [] := ⟨[], rfl, ⟨by simp, Or.inl ⟨rfl, rfl⟩⟩, fun i h => by simp at h⟩
theorem OwnT.below {W W' : World} {B : Nat} {v : Value} {l : List Tw} (h : OwnT W B v l) (hb : Below W.heap.size W W') : OwnT W' B v l := by
  obtain ⟨vs, h1, h2, h3⟩ := h
  exact ⟨vs, h1, ownsRow_keeps h2 (keeps_of_below (fun _ => False) hb) (fun _ _ => id), fun i a b => ⟨(h3 i a b).1.below hb, (h3 i a b).2.below hb⟩⟩
theorem OwnT.lt {W : World} {B : Nat} {v : Value} {l : List Tw} (h : OwnT W B v l) : ∀ g, v.ownBlock = some g → B ≤ g ∧ g < W.heap.size := by
  obtain ⟨vs, h1, h2, h3⟩ := h
  intro g hg
  rcases h2.2 with ⟨rfl, _⟩ | ⟨g', cap, cur, rfl, hb, hh, _⟩
  · cases hg
  · cases hg; exact ⟨hb, Blk.lt (t := 55) hh⟩
theorem OwnT.keeps {W W' : World} {G : Nat → Prop} {B : Nat} {v : Value} {l : List Tw} (h : OwnT W B v l) (hk : Keeps G W W') (hG : ∀ g, B ≤ g → g < W.heap.size → ¬ G g) : OwnT W' B v l := by
  have hlt := h.lt
  obtain ⟨vs, h1, h2, h3⟩ := h
  exact ⟨vs, h1, ownsRow_keeps h2 hk (fun g hg => hG g (hlt g hg).1 (hlt g hg).2), fun i a b => ⟨(h3 i a b).1.keeps hk (fun g hg => hG g ((h3 i a b).1.ge g hg) ((h3 i a b).1.lt g hg)), (h3 i a b).2.keeps hk (fun g hg => hG g ((h3 i a b).2.ge g hg) ((h3 i a b).2.lt g hg))⟩⟩
theorem OwnT.lower {W : World} {B B' : Nat} {v : Value} {l : List Tw} (h : OwnT W B v l) (hb : B' ≤ B) : OwnT W B' v l := by
  obtain ⟨vs, h1, h2, h3⟩ := h
  exact ⟨vs, h1, ownsRow_lower h2 hb, fun i a b => ⟨(h3 i a b).1.lower hb, (h3 i a b).2.lower hb⟩⟩
theorem OwnT.form {W : World} {B : Nat} {v : Value} {l : List Tw} (h : OwnT W B v l) : ∃ A c, v = .slice A l.length c ∧ l.length ≤ c ∧ c ≤ maxLen := by
  obtain ⟨vs, h1, h2, h3⟩ := h
  exact slice_form h2
theorem twc_len (p : Tw × (Value × Value)) : (twc p).length = 3 := rfl
theorem OwnT.push {W : World} {B : Nat} {v kv rv : Value} {l : List Tw} {x : Tw} (h : OwnT W B v l) (hk : OwnI W B kv x.kp) (hr : OwnI W B rv x.ri) (hB : B ≤ W.heap.size) (hs : l.length < 65536) (ty : TypeId) :
    ∃ v' W', (Builtin.append_ #[35, 35] ty #[v, .slice (some ⟨W.heap.size, 0, none⟩) 1 1]).run Tryz.prog (W.alloc (.cells #[.int .i64 (x.b : Int), kv, rv] 55)) = .ok v' W' ∧ OwnT W' B v' (l ++ [x]) ∧ Keeps (fun k => v.ownBlock = some k) W W' := by
  obtain ⟨vs, h1, h2, h3⟩ := h
  have ha : Below W.heap.size W (W.alloc (.cells #[.int .i64 (x.b : Int), kv, rv] 55)) := below1 _ _
  have k1 : (W.alloc (.cells #[.int .i64 (x.b : Int), kv, rv] 55)).ownsRow B 55 3 v l.length ((l.zip vs).flatMap twc) := ownsRow_keeps h2 (keeps_of_below (fun _ => False) ha) (fun _ _ => id)
  have hu : RowOf (W.alloc (.cells #[.int .i64 (x.b : Int), kv, rv] 55)) (.slice (some ⟨W.heap.size, 0, none⟩) 1 1) 1 [.int .i64 (x.b : Int), kv, rv] := by
    refine ⟨_, _, rfl, Nat.le_refl _, by decide, fun _ => ⟨_, 0, rfl, by simp [World.size_alloc], fun j u hj => ?_⟩⟩
    rw [Nat.zero_add, (Blk.new W _ #[.int .i64 (x.b : Int), kv, rv]).cell]
    simpa using hj
  have ho : ∀ y ∈ [Value.int .i64 (x.b : Int), kv, rv], y.oneCell' = true := by
    intro y hy
    obtain ⟨A, c, rfl, -, -⟩ := hk.form
    obtain ⟨A', c', rfl, -, -⟩ := hr.form
    simp only [List.mem_cons, List.not_mem_nil, or_false] at hy
    rcases hy with rfl | rfl | rfl <;> rfl
  obtain ⟨v', W', e1, e2, e3, e4⟩ := app_any arowT ty k1 hu rfl ho (by unfold maxLen; omega) (by omega) (by simp [World.size_alloc]; omega)
  have hkk : Keeps (fun k => v.ownBlock = some k) W W' := ((Keeps.refl (fun k => v.ownBlock = some k) W).alloc _).trans ((Keeps.refl _ _).grown e3 (fun g hg => Or.inr hg)) (fun _ _ h => h)
  have hne : ∀ {u : Value} {m : List Int}, OwnI W B u m → ∀ g, u.ownBlock = some g → ¬ v.ownBlock = some g := by
    intro u m hu g hg hv
    obtain ⟨cu, hcu⟩ := owns_kind hu hg
    obtain ⟨cv, hcv⟩ := owns_kind h2 hv
    exact absurd (Blk.kind hcu hcv) (by decide)
  refine ⟨v', W', e1, ⟨vs ++ [(kv, rv)], by simp [h1], ?_, fun i hi hi2 => ?_⟩, hkk⟩
  · rw [List.length_append, List.zip_append h1.symm, List.flatMap_append]
    exact e2
  · by_cases hlt : i < l.length
    · rw [List.getElem_append_left hlt, List.getElem_append_left (by omega)]
      exact ⟨(h3 i hlt (by omega)).1.keeps hkk (hne (h3 i hlt (by omega)).1), (h3 i hlt (by omega)).2.keeps hkk (hne (h3 i hlt (by omega)).2)⟩
    · have : i = l.length := by simp at hi; omega
      subst this
      rw [List.getElem_append_right (Nat.le_refl _), List.getElem_append_right (by omega)]
      simp only [h1, Nat.sub_self]
      exact ⟨hk.keeps hkk (hne hk), hr.keeps hkk (hne hr)⟩
end Go.Proofs.YtlmoblmkhicoeaaGreatDoor
