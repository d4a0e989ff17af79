/- Walks: (*graph).from, from block 0 on. Conditions: the lists lead to blocks. Walks: drawn. Conditions: the table of keywords; small parts. -/
import Derived.Test.YtlmoblmkhicoeaaGreatDoorK1
import Derived.Test.YtlmoblmkhicoeaaGreatDoorP3
import Derived.Test.YtlmoblmkhicoeaaGreatDoorE1
import Derived.Deep.LoopGhost
import Derived.Test.YtlmoblmkhicoeaaGreatDoorF3
set_option linter.unusedVariables false
set_option linter.unusedSimpArgs false
namespace Go.Proofs.YtlmoblmkhicoeaaGreatDoor
open Go.RowKit
/-- What lies where from walks. -/
structure FrW (w : World) (B gs : Nat) (n : Nat) (tv : Value) (s : List Bool × List Int) (W : World) : Prop where
  se : BRow W gs s.1
  ln : s.1.length = n
  td : OwnI W B tv s.2
  be : Below w.heap.size w W
  sz : B ≤ W.heap.size
  rg : ∀ t ∈ s.2, 0 ≤ t ∧ t < (n : Int)
theorem FrW.visit {w W W' : World} {B gs n : Nat} {tv tv' : Value} {s : List Bool × List Int} (h : FrW w B gs n tv s W) (hB : w.heap.size ≤ B) (hg : gs < B) (hgw : w.heap.size ≤ gs) {t : Nat} (ht : t < n) (hs : s.1.getD t false = false)
    (how : OwnI W' B tv' (s.2 ++ [(t : Int)])) (hk : Keeps (fun k => tv.ownBlock = some k) (W.setCell ⟨gs, t, none⟩ (.bool true)) W') : FrW w B gs n tv' (visit s (t : Int)) W' := by
  have hv : Go.Proofs.YtlmoblmkhicoeaaGreatDoor.visit s (t : Int) = (s.1.set t true, s.2 ++ [(t : Int)]) := by
    unfold Go.Proofs.YtlmoblmkhicoeaaGreatDoor.visit
    rw [show ((t : Int)).toNat = t by omega, hs]; rfl
  rw [hv]
  have hne : ¬ tv.ownBlock = some gs := fun e => by have := h.td.ge gs e; omega
  refine ⟨(h.se.set_ t true).keeps hk hne, by simp [h.ln], how, ?_, ?_, fun x hx => ?_⟩
  · have h1 : Below w.heap.size w (W.setCell ⟨gs, t, none⟩ (.bool true)) := Below.setC h.be hgw _
    exact h1.trans (hk.toBelow h1.size (fun k hk' e => by have := h.td.ge k e; omega))
  · have := hk.size
    rw [World.size_setCell] at this
    exact Nat.le_trans h.sz this
  · rcases List.mem_append.1 hx with h1 | h1
    · exact h.rg x h1
    · rw [List.mem_singleton] at h1; omega
theorem reachF_nil (tl : List (List Int)) (f : Nat) (s : List Bool × List Int) (h : s.2 = []) : reachF tl f s = s.1 := by
  cases f with
  | zero => rfl
  | succ f => rw [reachF, if_pos h]
theorem reach0_rg {n : Nat} (hn : 0 < n) (t : Int) (ht : t ∈ (reach0 n).2) : 0 ≤ t ∧ t < (n : Int) := by
  have : t = 0 := by simpa [reach0] using ht
  omega
theorem neq_m1 (t : Nat) : ((t : Int) != -1) = true := by
  rw [bne_iff_ne]; omega
theorem fr_get {w W : World} {B gs n : Nat} {tv : Value} {s : List Bool × List Int} (h : FrW w B gs n tv s W) {t : Nat} (ht : t < n) : ∃ b, s.1.getD t false = b ∧ W.cell? ⟨gs, t, none⟩ = some (.bool b) ∧ W.frozen? ⟨gs, t, none⟩ = false := by
  obtain ⟨b, hb, hc⟩ := h.se.val t (by rw [h.ln]; exact ht)
  exact ⟨b, hb, hc, h.se.frozen t⟩
theorem fr_push {w W : World} {B gs n : Nat} {tv : Value} {s : List Bool × List Int} (h : FrW w B gs n tv s W) (hB : w.heap.size ≤ B) (hg : gs < B) (hgw : w.heap.size ≤ gs) {t : Nat} (ht : t < n) (hs : s.1.getD t false = false) (hn : s.2.length < 16777216) (ty : TypeId) :
    ∃ v' W', (Builtin.append_ #[34, 34] ty #[tv, .slice (some ⟨W.heap.size, 0, none⟩) 1 1]).run Tryz.prog ((W.setCell ⟨gs, t, none⟩ (.bool true)).alloc (.cells #[.int .i64 (t : Int)] 3)) = .ok v' W' ∧ FrW w B gs n v' (visit s (t : Int)) W' := by
  have hsz : (W.setCell ⟨gs, t, none⟩ (.bool true)).heap.size = W.heap.size := World.size_setCell ..
  have h1 : OwnI (W.setCell ⟨gs, t, none⟩ (.bool true)) B tv s.2 := h.td.keeps ((Keeps.refl (fun k => k = gs) W).setCell (p := ⟨gs, t, none⟩) (Or.inr rfl) _) (fun g e h2 => by have := h.td.ge g e; omega)
  obtain ⟨v', W', e1, e2, e3⟩ := h1.push (by rw [hsz]; exact h.sz) (by omega) (t : Int) ty
  rw [hsz] at e1
  exact ⟨v', W', e1, h.visit hB hg hgw ht hs e2 e3⟩
theorem visit_seen {s : List Bool × List Int} {t : Nat} (h : s.1.getD t false = true) : visit s (t : Int) = s := by
  unfold visit
  rw [show ((t : Int)).toNat = t by omega, h]; rfl
theorem visit_step (l : List Int) (s : List Bool × List Int) {j : Nat} (hj : j < l.length) : (l.take (j + 1)).foldl visit s = visit ((l.take j).foldl visit s) l[j] := by
  rw [List.take_succ_eq_append_getElem hj, List.foldl_append]; rfl
set_option maxRecDepth 100000 in
set_option maxHeartbeats 4000000 in
theorem from_any (gg : Nat) (tl : List (List Int)) (tv : Value) (w : World) (hc5 : w.cell? ⟨gg, 5, none⟩ = some tv) (ht : ToAt w tv tl) (hok : ToOk tl) (hn : 0 < tl.length) (hn2 : tl.length ≤ 4096) :
    Calls Tryz.prog 50 #[.pointer (some ⟨gg, 0, none⟩), .int .i64 0, .int .i64 (-1)] w fun e w' => (∃ g, e = .returned (.slice (some ⟨g, 0, none⟩) tl.length tl.length) ∧ BRow w' g (reachL tl) ∧ w.heap.size ≤ g) ∧ Below w.heap.size w w' := by
  obtain ⟨A, c, rfl, h1, h2⟩ := ht.form
  unfold maxLen at h2
  have HT := Lib.hid ht
  have HOK := Lib.hid hok
  have hgg := cell_lt hc5
  have hmk := fun w => make_bools tl.length (by omega) w
  have hs0 : FrW w (w.heap.size + 1) w.heap.size tl.length (.slice (some ⟨w.heap.size + 1, 0, none⟩) 1 1) (reach0 tl.length) ((w.alloc (.cells ((Array.replicate tl.length (.bool false)).setIfInBounds 0 (.bool true)) 4)).alloc (.cells #[.int .i64 0] 3)) :=
    ⟨⟨_, (Blk.new w 4 _).alloc _, by simp [reach0, bv, List.map_set]⟩, by simp [reach0], OwnI.new (B := w.heap.size + 1) (l := [0]) (blk_at (by simp [World.size_alloc]) _ _) rfl rfl (Nat.le_refl _) (by decide), below2 _ _ _, by simp [World.size_alloc], fun t ht => reach0_rg hn t ht⟩
  have HS0 := Lib.hid hs0
  have hf0 : (w.alloc (.cells (Array.replicate tl.length (.bool false)) 4)).frozen? ⟨w.heap.size, 0, none⟩ = false := (BRow.made w tl.length).frozen 0
  have hf1 : (w.alloc (.cells (Array.replicate tl.length (.bool false)) 4)).cell? ⟨w.heap.size, 0, none⟩ = some (.bool false) := by
    obtain ⟨b, hb, hcell⟩ := (BRow.made w tl.length).val 0 (by simpa using hn)
    rw [hcell, ← hb]; simp [hn]
  obtain ⟨i1, i2, i3⟩ := reach0_inv (tl := tl) hn
  have HI := Lib.hid (And.intro i1 i2)
  have h0n : (0 : Int) < (tl.length : Int) := by omega
  clear ht hok hs0 i1 i2 i3
  go_enter Tryz.func50, Tryz.ntmps50
  go_wp2_with fail
  go_loopg [8] (2 * tl.length + 1) (fun f tdv wr => ∃ s : List Bool × List Int, Hid (FrW w (w.heap.size + 1) w.heap.size tl.length tdv s wr) ∧ Hid (meas s ≤ f ∧ meas s ≤ 8193 ∧ reachF tl f s = reachL tl))
  case atStart => exact ⟨_, HS0.out, HI.out.2, Nat.le_trans HI.out.2 (by omega), rfl⟩
  case round =>
    clear HS0 HI hf0 hf1
    obtain ⟨s, HW, HM⟩ := hrel
    by_cases he : s.2 = []
    · obtain ⟨At, ct, rfl, q1, q2⟩ := HW.out.td.form
      have hl0 : s.2.length = 0 := by rw [he]; rfl
      have hfin : s.1 = reachL tl := by
        rw [← HM.out.2.2, reachF_nil tl _ s he]
      rw [hl0]
      have HR := Lib.hid HW.out.se
      rw [hfin] at HR
      have HB := Lib.hid HW.out.be
      clear HW HM hfin
      go_wp2
      go_ret
      exact ⟨⟨_, rfl, HR.out, Nat.le_refl _⟩, HB.out⟩
    · obtain ⟨gt, cap, m, hm, rfl, q1, q2, cl, hpop⟩ := HW.out.td.pop he
      unfold maxLen at q2
      obtain ⟨gto, off, cap', ea, h3, h4, hg, hcc⟩ := HT.out.open_ hn
      cases ea
      obtain ⟨f, hf⟩ : ∃ f, gk = f + 1 := by
        refine ⟨gk - 1, ?_⟩
        have h5 := HM.out.1
        unfold meas at h5
        omega
      subst hf
      have hk0 : (s.2.getLastD 0) ∈ s.2 := by
        rw [List.getLastD_eq_getLast?, List.getLast?_eq_some_getLast he]; exact List.getLast_mem he
      have hkr := HW.out.rg _ hk0
      obtain ⟨k, hk⟩ : ∃ k : Nat, s.2.getLastD 0 = (k : Int) := ⟨(s.2.getLastD 0).toNat, by omega⟩
      rw [hk] at hkr cl
      have hkn : k < tl.length := by omega
      obtain ⟨v2, d0, hv2⟩ := hcc k hkn
      obtain ⟨A2, cc2, rfl, k1, k2⟩ := hv2.form
      unfold maxLen at k2
      have e2 : tl.getD (s.2.getLastD 0).toNat [] = tl[k] := by rw [hk, show ((k : Int)).toNat = k by omega]; simp [hkn]
      have hst : fromStep tl s = (tl[k]).foldl visit (s.1, s.2.dropLast) := by rw [fromStep, e2]
      have hmst := fromStep_meas HOK.out s HW.out.ln he
      have hlk : ∀ t ∈ tl[k], 0 ≤ t ∧ t < (tl.length : Int) := HOK.out _ (List.getElem_mem hkn)
      have hmj := fun j => visits_meas ((tl[k]).take j) (s.1, s.2.dropLast) (fun n hn => by
        have := hlk n (List.mem_of_mem_take hn)
        have := HW.out.ln
        simp; omega)
      have hd1 : meas (s.1, s.2.dropLast) ≤ meas s := by simp [meas]
      have hrec : reachF tl f (fromStep tl s) = reachL tl := by rw [← HM.out.2.2, reachF, if_neg he]
      have HNEW := Lib.hid (show meas (fromStep tl s) ≤ f ∧ meas (fromStep tl s) ≤ 8193 ∧ reachF tl f (fromStep tl s) = reachL tl from ⟨by have := HM.out.1; omega, by have := HM.out.2.1; omega, hrec⟩)
      obtain ⟨l2, hl2⟩ : ∃ l2, tl[k] = l2 := ⟨_, rfl⟩
      rw [hl2] at hv2 hst hlk hmj k1
      rw [hl2] at d0
      have HMJ := Lib.hid (fun j => Nat.le_trans (hmj j).1 (Nat.le_trans hd1 HM.out.2.1))
      have HV2 := Lib.hid hv2
      have HST := Lib.hid hst
      have HLK := Lib.hid hlk
      have HWP := Lib.hid (show FrW w (w.heap.size + 1) w.heap.size tl.length (.slice (some ⟨gt, 0, none⟩) m cap) (s.1, s.2.dropLast) wr from ⟨HW.out.se, HW.out.ln, hpop, HW.out.be, HW.out.sz, fun t ht => HW.out.rg t (List.dropLast_subset _ ht)⟩)
      have e5 : wr.cell? ⟨gg, 5, none⟩ = some (.slice (some ⟨gto, off, none⟩) tl.length c) := (HW.out.be.cell (p := ⟨gg, 5, none⟩) hgg).trans hc5
      have e6 : wr.cell? ⟨gto, off + k, none⟩ = some (.slice A2 l2.length cc2) := (HW.out.be.cell (p := ⟨gto, off + k, none⟩) hg).trans d0
      clear hm hcc hk0 hkr hk e2 hst hmst hlk hmj hd1 hrec hv2 hpop HM d0 hl2 he HW
      go_wp2
      go_loopw [49, 8] (fun i tdv wr => ∃ j : Nat, j ≤ l2.length ∧ i = .int .i64 j ∧ Hid (FrW w (w.heap.size + 1) w.heap.size tl.length tdv ((l2.take j).foldl visit (s.1, s.2.dropLast)) wr)) (fun i _ _ => l2.length - (intOf i).toNat)
      case atStart => exact ⟨0, Nat.zero_le _, rfl, HWP.out⟩
      case round =>
        clear HWP cl e5 e6
        obtain ⟨j, hj, rfl, HW⟩ := hrel
        by_cases hjt : j < l2.length
        · obtain ⟨g2, off2, cap2, ea, h5, h6, hg2, hc2⟩ := (HV2.out.below HW.out.be).open_ (Nat.lt_of_le_of_lt (Nat.zero_le _) hjt)
          cases ea
          have c0 := hc2 j hjt
          have htt := HLK.out l2[j] (List.getElem_mem hjt)
          have hvs := visit_step l2 (s.1, s.2.dropLast) hjt
          obtain ⟨t, ht⟩ : ∃ t : Nat, l2[j] = (t : Int) := ⟨l2[j].toNat, by omega⟩
          rw [ht] at c0 htt hvs
          have htn : t < tl.length := by omega
          have hne := neq_m1 t
          obtain ⟨b, hb, cb, fb⟩ := fr_get HW.out htn
          have hlen : ((l2.take j).foldl visit (s.1, s.2.dropLast)).2.length < 16777216 := by
            have := HMJ.out j
            unfold meas at this
            omega
          cases b with
          | true =>
            have HN := Lib.hid HW.out
            rw [← visit_seen hb, ← hvs] at HN
            clear hb hvs hlen HW ht htt hc2
            go_wp2
            go_roundw
            case rel => exact ⟨j + 1, by omega, by go_num, HN.out⟩
            case measure => simp [intOf]; omega
          | false =>
            obtain ⟨v', w3, hap, hfr⟩ := fr_push HW.out (Nat.le_succ _) (Nat.lt_succ_self _) (Nat.le_refl _) htn hb hlen 34
            rw [← hvs] at hfr
            have HAP := Lib.hid hap
            have HN := Lib.hid hfr
            clear hb hvs hlen HW ht htt hc2 hap hfr
            go_wp2_with (at_builtin; refine wpList_append_eq rfl (.tmp 66) (.tmp 68) 34 rfl rfl rfl HAP.out ?_)
            go_roundw
            case rel => exact ⟨j + 1, by omega, by go_num, HN.out⟩
            case measure => simp [intOf]; omega
        · have hje : j = l2.length := by omega
          subst hje
          have HW4 := Lib.hid HW.out
          rw [List.take_length, ← HST.out] at HW4
          clear HW
          go_wp2
          go_roundg f
          case rel => exact ⟨_, HW4.out, HNEW.out⟩
          case measure => omega
end Go.Proofs.YtlmoblmkhicoeaaGreatDoor
namespace Go.Proofs.YtlmoblmkhicoeaaGreatDoor
open Go.RowKit
theorem containsInt_any (l : List Int) (v : Value) (x : Int) (w : World) (h : Ints w v l) : Calls Tryz.prog 49 #[v, .int .i64 x] w fun e w' => e = .returned (.bool (l.contains x)) ∧ w' = w := by
  obtain ⟨A, c, rfl, h1, h2⟩ := h.form
  unfold maxLen at h2
  rcases Nat.eq_zero_or_pos l.length with hz | hp
  · have : l = [] := List.length_eq_zero_iff.1 hz
    subst this
    exact Tryz.slices_Contains_int_empty A c x w
  · obtain ⟨g, off, cap, e, h3, h4, hg, hc⟩ := h.open_ hp
    cases e
    have := Tryz.slices_Contains_int g off l.length c l x w (Nat.le_refl _) (by omega) (fun j hj => by
      rw [hc j hj]; simp [hj])
    rw [List.take_length] at this
    exact this
theorem und27 : Tryz.prog.underlying 27 = some (.slice 34) := by kernel_rfl
theorem inf34 : (Tryz.prog.info? 34).map (fun i => (i.zero, i.size, i.bytes)) = some (some (.slice none 0 0), 1, 24) := by kernel_rfl
theorem arowR : ARow 27 34 1 24 := arow_of und27 inf34 rfl (by decide)
/-- A row of rows of ints, all of the call's own. -/
def OwnR (W : World) (B : Nat) (v : Value) (tl : List (List Int)) : Prop :=
  ∃ vs : List Value, vs.length = tl.length ∧ W.ownsRow B 34 1 v tl.length vs ∧ ∀ i (h : i < tl.length) (h2 : i < vs.length), OwnI W B vs[i] tl[i]
theorem OwnR.nil (W : World) (B : Nat) : OwnR W B (.slice none 0 0) [] := ⟨[], rfl, ⟨by simp, Or.inl ⟨rfl, rfl⟩⟩, fun i h => by simp at h⟩
theorem OwnR.to {W : World} {B : Nat} {v : Value} {tl : List (List Int)} (h : OwnR W B v tl) : ToAt W v tl := by
  obtain ⟨vs, h1, h2, h3⟩ := h
  exact ⟨vs, h1, RowOf.own h2, fun i a b => (h3 i a b).ints⟩
theorem OwnR.form {W : World} {B : Nat} {v : Value} {tl : List (List Int)} (h : OwnR W B v tl) : ∃ A c, v = .slice A tl.length c ∧ tl.length ≤ c ∧ c ≤ maxLen := h.to.form
theorem OwnR.below {W W' : World} {B : Nat} {v : Value} {tl : List (List Int)} (h : OwnR W B v tl) (hb : Below W.heap.size W W') : OwnR W' B v tl := by
  obtain ⟨vs, h1, h2, h3⟩ := h
  exact ⟨vs, h1, ownsRow_keeps h2 (keeps_of_below (fun _ => False) hb) (fun _ _ => id), fun i a b => (h3 i a b).below hb⟩
theorem OwnR.keeps {W W' : World} {F : Nat → Prop} {B : Nat} {v : Value} {tl : List (List Int)} (h : OwnR W B v tl) (hk : Keeps F W W') (hF : ∀ g, B ≤ g → ¬ F g) : OwnR W' B v tl := by
  obtain ⟨vs, h1, h2, h3⟩ := h
  refine ⟨vs, h1, ownsRow_keeps h2 hk (fun g hg => hF g ?_), fun i a b => (h3 i a b).keeps hk (fun g hg => hF g ((h3 i a b).ge g hg))⟩
  rcases h2.2 with ⟨rfl, _⟩ | ⟨g', cap, cur, rfl, hb, _⟩
  · cases hg
  · cases hg; exact hb
theorem OwnR.ge {W : World} {B : Nat} {v : Value} {tl : List (List Int)} (h : OwnR W B v tl) : ∀ g, v.ownBlock = some g → B ≤ g := by
  intro g hg
  obtain ⟨vs, h1, h2, h3⟩ := h
  rcases h2.2 with ⟨rfl, _⟩ | ⟨g', cap, cur, rfl, hb, _⟩
  · cases hg
  · cases hg; exact hb
theorem OwnR.push {W : World} {B : Nat} {v v2 : Value} {tl : List (List Int)} {l : List Int} (h : OwnR W B v tl) (hl : OwnI W B v2 l) (hB : B ≤ W.heap.size) (hs : tl.length < 16777216) (ty : TypeId) :
    ∃ v' W', (Builtin.append_ #[27, 27] ty #[v, .slice (some ⟨W.heap.size, 0, none⟩) 1 1]).run Tryz.prog (W.alloc (.cells #[v2] 34)) = .ok v' W' ∧ OwnR W' B v' (tl ++ [l]) ∧ Keeps (fun k => v.ownBlock = some k) W W' := by
  obtain ⟨vs, h1, h2, h3⟩ := h
  have ha : Below W.heap.size W (W.alloc (.cells #[v2] 34)) := below1 _ _
  have k1 : (W.alloc (.cells #[v2] 34)).ownsRow B 34 1 v tl.length vs := ownsRow_keeps h2 (keeps_of_below (fun _ => False) ha) (fun _ _ => id)
  have hu : RowOf (W.alloc (.cells #[v2] 34)) (.slice (some ⟨W.heap.size, 0, none⟩) 1 1) 1 [v2] := by
    refine ⟨_, _, rfl, Nat.le_refl _, by decide, fun _ => ⟨_, 0, rfl, by simp [World.size_alloc], fun j u hj => ?_⟩⟩
    rw [Nat.zero_add, (Blk.new W _ #[v2]).cell]
    simpa using hj
  have ho : ∀ y ∈ [v2], y.oneCell' = true := by
    intro y hy
    obtain rfl := List.mem_singleton.1 hy
    obtain ⟨A, c, rfl, -, -⟩ := hl.form
    rfl
  obtain ⟨v', W', e1, e2, e3, e4⟩ := app_any arowR ty k1 hu rfl ho (by unfold maxLen; omega) (by omega) (by simp [World.size_alloc]; omega)
  have hk : Keeps (fun k => v.ownBlock = some k) W W' := ((Keeps.refl (fun k => v.ownBlock = some k) W).alloc _).trans ((Keeps.refl _ _).grown e3 (fun g hg => Or.inr hg)) (fun _ _ h => h)
  have hne : ∀ {u : Value} {m : List Int}, OwnI W B u m → ∀ g, u.ownBlock = some g → ¬ v.ownBlock = some g := by
    intro u m hu g hg hv
    obtain ⟨cu, hcu⟩ := owns_kind hu hg
    obtain ⟨cv, hcv⟩ := owns_kind h2 hv
    exact absurd (Blk.kind hcu hcv) (by decide)
  refine ⟨v', W', e1, ⟨vs ++ [v2], by simp [h1], by rw [List.length_append]; exact e2, fun i hi hi2 => ?_⟩, hk⟩
  by_cases hlt : i < tl.length
  · rw [List.getElem_append_left hlt, List.getElem_append_left (by omega)]
    exact (h3 i hlt (by omega)).keeps hk (hne (h3 i hlt (by omega)))
  · have : i = tl.length := by simp at hi; omega
    subst this
    rw [List.getElem_append_right (Nat.le_refl _), List.getElem_append_right (by omega)]
    simp only [h1, Nat.sub_self]
    exact hl.keeps hk (hne hl)
end Go.Proofs.YtlmoblmkhicoeaaGreatDoor
