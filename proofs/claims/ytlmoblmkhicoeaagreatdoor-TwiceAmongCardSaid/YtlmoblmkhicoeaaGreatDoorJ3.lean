/- Rows of ints of the call's own that grow. No conditions. Walks: CheckFunc, any, Reads. Conditions: the table of keywords; small parts. -/
import Derived.Test.YtlmoblmkhicoeaaGreatDoorP1
import Derived.Test.YtlmoblmkhicoeaaGreatDoorJ2
import Derived.Deep.RegionWith
set_option linter.unusedVariables false
set_option linter.unusedSimpArgs false
namespace Go.Proofs.YtlmoblmkhicoeaaGreatDoor
open Go.RowKit
theorem arowI : ARow 34 3 1 8 := arow_of und34 inf3 rfl (by decide)
/-- A row of ints of one's own, from a base on. -/
def OwnI (W : World) (B : Nat) (v : Value) (l : List Int) : Prop := W.ownsRow B 3 1 v l.length (l.map iv)
theorem OwnI.nil (W : World) (B : Nat) : OwnI W B (.slice none 0 0) [] := ⟨by simp, Or.inl ⟨rfl, rfl⟩⟩
theorem OwnI.ints {W : World} {B : Nat} {v : Value} {l : List Int} (h : OwnI W B v l) : Ints W v l := RowOf.own h
theorem OwnI.ge {W : World} {B : Nat} {v : Value} {l : List Int} (h : OwnI W B v l) : ∀ g, v.ownBlock = some g → B ≤ g := by
  intro g hg
  rcases h.2 with ⟨rfl, _⟩ | ⟨g', cap, cur, rfl, hb, _⟩
  · cases hg
  · cases hg; exact hb
theorem OwnI.lt {W : World} {B : Nat} {v : Value} {l : List Int} (h : OwnI W B v l) : ∀ g, v.ownBlock = some g → g < W.heap.size := by
  intro g hg
  rcases h.2 with ⟨rfl, _⟩ | ⟨g', cap, cur, rfl, hb, hh, _⟩
  · cases hg
  · cases hg; exact Blk.lt (t := 3) hh
theorem OwnI.below {W W' : World} {B : Nat} {v : Value} {l : List Int} (h : OwnI W B v l) (hb : Below W.heap.size W W') : OwnI W' B v l :=
  ownsRow_keeps h (keeps_of_below (fun _ => False) hb) (fun _ _ => id)
theorem OwnI.keeps {W W' : World} {F : Nat → Prop} {B : Nat} {v : Value} {l : List Int} (h : OwnI W B v l) (hk : Keeps F W W') (hF : ∀ g, v.ownBlock = some g → ¬ F g) : OwnI W' B v l :=
  ownsRow_keeps h hk hF
theorem OwnI.lower {W : World} {B B' : Nat} {v : Value} {l : List Int} (h : OwnI W B v l) (hb : B' ≤ B) : OwnI W B' v l := ownsRow_lower h hb
theorem OwnI.form {W : World} {B : Nat} {v : Value} {l : List Int} (h : OwnI W B v l) : ∃ A c, v = .slice A l.length c ∧ l.length ≤ c ∧ c ≤ maxLen := RowOf.form h.ints
/-- A new row. -/
theorem OwnI.new {W : World} {B g n : Nat} {l : List Int} {cs : Array Value} (h : Blk W g 3 cs) (hc : cs.toList = l.map iv) (hn : l.length = n) (hB : B ≤ g) (hm : n ≤ maxLen) : OwnI W B (.slice (some ⟨g, 0, none⟩) n n) l := by
  subst hn
  refine ⟨by simp, Or.inr ⟨g, _, cs, rfl, hB, h, Nat.le_refl _, hm, ?_, ?_⟩⟩
  · have := congrArg List.length hc
    simp at this
    omega
  · rw [hc, List.take_of_length_le (by simp)]
/-- An append of what lies anywhere. -/
theorem OwnI.app {W : World} {B : Nat} {v u : Value} {l m : List Int} (h : OwnI W B v l) (hu : Ints W u m) (hB : B ≤ W.heap.size) (hs : l.length + m.length ≤ 17592186044416) (ty : TypeId) :
    ∃ v' W', (Builtin.append_ #[34, 34] ty #[v, u]).run Tryz.prog W = .ok v' W' ∧ OwnI W' B v' (l ++ m) ∧ Keeps (fun k => v.ownBlock = some k) W W' ∧ (v'.ownBlock = v.ownBlock ∨ v'.ownBlock = some W.heap.size) := by
  obtain ⟨v', W', h1, h2, h3, h4⟩ := app_any arowI ty h hu (by simp) (fun y hy => by
    obtain ⟨i, _, rfl⟩ := List.mem_map.1 hy
    rfl) (by unfold maxLen; omega) (by omega) hB
  refine ⟨v', W', h1, ?_, (Keeps.refl _ W).grown h3 (fun g hg => Or.inr hg), h4⟩
  unfold OwnI
  rw [List.length_append, List.map_append]
  exact h2
/-- An append of one number, its row just made. -/
theorem OwnI.push {W : World} {B : Nat} {v : Value} {l : List Int} (h : OwnI W B v l) (hB : B ≤ W.heap.size) (hs : l.length < 17592186044416) (x : Int) (ty : TypeId) :
    ∃ v' W', (Builtin.append_ #[34, 34] ty #[v, .slice (some ⟨W.heap.size, 0, none⟩) 1 1]).run Tryz.prog (W.alloc (.cells #[.int .i64 x] 3)) = .ok v' W' ∧ OwnI W' B v' (l ++ [x]) ∧ Keeps (fun k => v.ownBlock = some k) W W' := by
  have h1 : OwnI (W.alloc (.cells #[.int .i64 x] 3)) B v l := h.below ((Below.refl _ _).alloc (Nat.le_refl _) _)
  have h2 : OwnI (W.alloc (.cells #[.int .i64 x] 3)) W.heap.size (.slice (some ⟨W.heap.size, 0, none⟩) 1 1) [x] := OwnI.new (Blk.new W 3 #[.int .i64 x]) rfl rfl (Nat.le_refl _) (by decide)
  obtain ⟨v', W', e1, e2, e3, -⟩ := h1.app h2.ints (by simp [World.size_alloc]; omega) (by simp; omega) ty
  exact ⟨v', W', e1, e2, ((Keeps.refl (fun k => v.ownBlock = some k) W).alloc _).trans e3 (fun _ _ h => h)⟩
/-- The same behind a draw. -/
theorem OwnI.keepsB {W W' : World} {B : Nat} {v : Value} {l : List Int} (h : OwnI W B v l) (hk : Keeps (fun k => v.ownBlock = some k) W W') (hB : B ≤ W.heap.size) : Below B W W' :=
  hk.toBelow hB (fun k hk' hv => by have := h.ge k hv; omega)
end Go.Proofs.YtlmoblmkhicoeaaGreatDoor
namespace Go.Proofs.YtlmoblmkhicoeaaGreatDoor
open Go.RowKit
/-- A function as it came in. -/
structure FnIn (W : World) (F : Fn) (sv bv : Value) : Prop where
  sl : SlsAt W sv F.sl
  bl : BlsAt W bv F.bl
  ke : KeysAt W
  sm : Small F
theorem FnIn.below {W W' : World} {F : Fn} {sv bv : Value} (h : FnIn W F sv bv) (hb : Below W.heap.size W W') : FnIn W' F sv bv := ⟨h.sl.below hb, h.bl.below hb, h.ke.below hb, h.sm⟩
def errV (F : Fn) : Value := .int .i64 (if fnB F then 0 else 180)
set_option maxRecDepth 100000 in
theorem check_any (F : Fn) (sv bv : Value) (w : World) (h : FnIn w F sv bv) :
    Calls Tryz.prog 34 #[fnv F sv bv] w fun e w' => e = .returned (errV F) ∧ Below w.heap.size w w' := by
  obtain ⟨A, c, rfl, -, -⟩ := h.bl.form
  obtain ⟨As, cs, rfl, -, -⟩ := RowOf.form h.sl
  have hb1 := below1 w (.cells #[.string F.nm, .int .i64 F.ps, .int .i64 F.rs, .slice As F.sl.length cs, .slice A F.bl.length c] 25)
  have HF := Lib.hid (function_any F (.slice As F.sl.length cs) (.slice A F.bl.length c) _ (h.sl.below hb1) (h.bl.below hb1) (h.ke.below hb1) h.sm)
  obtain ⟨b, hb⟩ : ∃ b, fnB F = b := ⟨_, rfl⟩
  have HE := Lib.hid (show errV F = .int .i64 (if b then 0 else 180) by rw [errV, hb])
  rw [hb] at HF
  clear hb hb1 h
  unfold fnv at HF
  unfold fnv
  go_enter Tryz.func34, Tryz.ntmps34
  go_wp2_with fail
  refine HF.out.mono ?_
  rintro e w1 ⟨rfl, hb2⟩
  cases b
  all_goals
    go_wp2_with fail
    go_ret
    exact ⟨by rw [HE.out]; rfl, (below1 w _).trans (below_of_le hb2 (size_le1 _ _))⟩
theorem bany_any (w : World) : Calls Tryz.prog 65 #[] w fun e w' => e = .returned (bnds 4096 4611686018427387904 4611686018427387904) ∧ w' = w.alloc (.cells (bndA 4096 4611686018427387904 4611686018427387904) 133) := by
  go_enter Tryz.func65, Tryz.ntmps65
  go_wp2
  refine bodyPost_ret (v := bnds 4096 4611686018427387904 4611686018427387904) (by simp [results, Tryz.results65, go_sem, bnds]) rfl ⟨rfl, rfl⟩
def ge0 (l : List Int) : List Int := l.filter (fun r => decide (0 ≤ r))
theorem ge0_yes {l : List Int} {k : Nat} (hk : k < l.length) (h : 0 ≤ l[k]) : ge0 (l.take (k + 1)) = ge0 (l.take k) ++ [l[k]] := by
  rw [List.take_succ_eq_append_getElem hk, ge0, List.filter_append]; simp [ge0, h]
theorem ge0_no {l : List Int} {k : Nat} (hk : k < l.length) (h : ¬ 0 ≤ l[k]) : ge0 (l.take (k + 1)) = ge0 (l.take k) := by
  rw [List.take_succ_eq_append_getElem hk, ge0, List.filter_append]; simp [ge0, h]
theorem ge0_len (l : List Int) (k : Nat) : (ge0 (l.take k)).length ≤ k := Nat.le_trans (List.length_filter_le _ _) (by rw [List.length_take]; omega)
theorem box_key {w W0 w1 : World} {t : TypeId} {cs : Array Value} (hb : Below W0.heap.size W0 w1) (h : Blk W0 w.heap.size t cs ∧ Below w.heap.size w W0) : Blk w1 w.heap.size t cs ∧ Below w.heap.size w w1 :=
  ⟨h.1.below hb h.1.lt, h.2.trans (below_of_le hb h.2.size)⟩
set_option maxRecDepth 100000 in
set_option maxHeartbeats 4000000 in
theorem reads_any (o : Op) (av : Value) (w : World) (ha : Ints w av o.ar) (hk : KeysAt w) (hs : o.tx.size ≤ maxLen) (hl : o.ar.length ≤ 17592186044414) :
    Calls Tryz.prog 41 #[opv o av] w fun e w' => (∃ a, e = .returned a ∧ Ints w' a (reads o) ∧ Fresh w a) ∧ Below w.heap.size w w' := by
  obtain ⟨A, c, rfl, h1, h2⟩ := ha.form
  unfold maxLen at h2
  have HA := Lib.hid ha
  have HQ := Lib.hid (fun W (h : Below w.heap.size w W) => op_any 4096 4611686018427387904 4611686018427387904 o (.slice A o.ar.length c) W (ha.below h) (hk.below h) hs)
  have HN := Lib.hid (fun W => bany_any W)
  obtain ⟨b, hb⟩ : ∃ b, opB 4096 4611686018427387904 4611686018427387904 o = b := ⟨_, rfl⟩
  have HR := Lib.hid (show reads o = if b then ge0 (o.a :: o.b :: o.ar) else [] by rw [reads, hb]; rfl)
  rw [hb] at HQ
  unfold opv bnds at HQ
  unfold bnds bndA at HN
  unfold opv
  clear ha hk hs hb
  go_enter Tryz.func41, Tryz.ntmps41
  go_wp2_with fail
  go_region_with (first
    | (go_at_call 65; refine (HN.out _).mono ?_; rintro e w1 ⟨rfl, rfl⟩)
    | (go_at_call 66; refine (HQ.out _ ?_).mono ?_; (first | exact drewB (below2 _ _ _) | exact below2 _ _ _ | exact (below1 _ _).trans (below_of_le (drewB (below1 _ _)) (size_le1 _ _))); rintro e w1 ⟨rfl, hb1⟩))
  all_goals
    have hkey : Blk w1 w.heap.size 75 (opA o (.slice A o.ar.length c)) ∧ Below w.heap.size w w1 := box_key hb1
      (by first
        | exact ⟨(Blk.new w 75 (opA o (.slice A o.ar.length c))).alloc _, below2 w _ _⟩
        | exact ⟨((Blk.new w 75 (opA o (.slice A o.ar.length c))).alloc _).drew, drewB (below2 w _ _)⟩
        | exact ⟨((Blk.new w 75 (opA o (.slice A o.ar.length c))).drew).alloc _, (drewB (below1 w _)).alloc (size_le1 _ _) _⟩)
    have c2 : w1.cell? ⟨w.heap.size, 2, none⟩ = some (.int .i64 o.a) := (hkey.1.cell 2).trans rfl
    have c3 : w1.cell? ⟨w.heap.size, 3, none⟩ = some (.int .i64 o.b) := (hkey.1.cell 3).trans rfl
    have d6 : (w1.alloc (.cells #[.int .i64 o.a, .int .i64 o.b] 3)).cell? ⟨w.heap.size, 6, none⟩ = some (.slice A o.ar.length c) := ((hkey.1.alloc _).cell 6).trans rfl
    have HB1 := Lib.hid hkey.2
    clear hkey hb1
    cases b with
    | false =>
      go_wp2_with fail
      go_ret
      exact ⟨⟨_, rfl, by rw [HR.out]; exact ints_nil _, fresh_nil w⟩, HB1.out⟩
    | true =>
      have hOw : OwnI (w1.alloc (.cells #[.int .i64 o.a, .int .i64 o.b] 3)) w1.heap.size (.slice (some ⟨w1.heap.size, 0, none⟩) 2 2) [o.a, o.b] := OwnI.new (Blk.new w1 3 _) rfl rfl (Nat.le_refl _) (by decide)
      obtain ⟨av, w2, hap, how, hkp, -⟩ := hOw.app (RowOf.below HA.out (HB1.out.trans (below_of_le (below1 w1 _) HB1.out.size)) : Ints _ (.slice A o.ar.length c) o.ar) (by simp [World.size_alloc]) (by simp; omega) 34
      have HAP := Lib.hid hap
      have HB2 := Lib.hid (HB1.out.trans (below_of_le ((below1 w1 _).trans (hOw.keepsB hkp (by simp [World.size_alloc]))) HB1.out.size))
      have HOW := Lib.hid how.ints
      have hAL : ([o.a, o.b] ++ o.ar).length ≤ 17592186044416 := by simp; omega
      obtain ⟨al, hal⟩ : ∃ al, [o.a, o.b] ++ o.ar = al := ⟨_, rfl⟩
      have HR2 := Lib.hid (show reads o = ge0 al by rw [HR.out, ← hal]; rfl)
      rw [hal] at HOW hAL
      obtain ⟨Aa, ca, rfl, a1, a2⟩ := how.form
      rw [hal] at HAP HOW a1 how
      unfold maxLen at a2
      have HL2 := Lib.hid how.lt
      clear hap hkp how hOw HR hal
      go_wp2_with (at_builtin; refine wpList_append_eq rfl (.tmp 14) (.tmp 16) 34 rfl rfl rfl HAP.out ?_)
      go_loopw [19, 3] (fun i ov wr => ∃ k : Nat, k ≤ al.length ∧ i = .int .i64 k ∧ Hid (OwnI wr w2.heap.size ov (ge0 (al.take k)) ∧ Below w2.heap.size w2 wr)) (fun i _ _ => al.length - (intOf i).toNat)
      case atStart => exact ⟨0, Nat.zero_le _, rfl, OwnI.nil _ _, Below.refl _ _⟩
      case round =>
        obtain ⟨k, hk, rfl, HW⟩ := hrel
        by_cases hlt : k < al.length
        · obtain ⟨g, off, cap', ea, h3, h4, hg, hc⟩ := (Ints.below HOW.out HW.out.2).open_ (Nat.lt_of_le_of_lt (Nat.zero_le _) hlt)
          cases ea
          have c0 := hc k hlt
          have hy := ge0_yes hlt
          have hn := ge0_no hlt
          obtain ⟨x, hx⟩ : ∃ x, al[k] = x := ⟨_, rfl⟩
          rw [hx] at c0 hy hn
          have HY := Lib.hid hy
          have HNO := Lib.hid hn
          clear hc hx hy hn
          by_cases h0 : 0 ≤ x
          · obtain ⟨v', w3, hap, how, hkp⟩ := HW.out.1.push HW.out.2.size (by have := ge0_len al k; omega) x 34
            have HAP3 := Lib.hid hap
            have HW3 := Lib.hid (show OwnI w3 w2.heap.size v' (ge0 (al.take (k + 1))) ∧ Below w2.heap.size w2 w3 from ⟨by rw [HY.out h0]; exact how, HW.out.2.trans (HW.out.1.keepsB hkp HW.out.2.size)⟩)
            clear hap how hkp HW HY HNO
            go_wp2_with (at_builtin; refine wpList_append_eq rfl (.tmp 25) (.tmp 27) 34 rfl rfl rfl HAP3.out ?_)
            go_roundw
            case rel => exact ⟨k + 1, by omega, by go_num, HW3.out⟩
            case measure => simp [intOf]; omega
          · have HW3 := Lib.hid (HNO.out h0)
            clear HY HNO
            go_wp2_with fail
            go_roundw
            case rel => exact ⟨k + 1, by omega, by go_num, by rw [HW3.out]; exact HW.out⟩
            case measure => simp [intOf]; omega
        · have hke : k = al.length := by omega
          subst hke
          have HW3 := Lib.hid HW.out
          rw [List.take_length] at HW3
          clear HW
          go_wp2_with fail
          go_ret
          exact ⟨⟨_, rfl, by rw [HR2.out]; exact HW3.out.1.ints, fun g hg => by have := HW3.out.1.ge g hg; have := HB2.out.size; omega⟩, HB2.out.trans (below_of_le HW3.out.2 HB2.out.size)⟩
end Go.Proofs.YtlmoblmkhicoeaaGreatDoor
